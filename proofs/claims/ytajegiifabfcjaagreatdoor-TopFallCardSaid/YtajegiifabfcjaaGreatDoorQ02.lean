/-
  Check, Disk, DiskF, DiskS, DiskW
-/
import Derived.Test.YtajegiifabfcjaaGreatDoorQ01
import Derived.RegionTactic
import Derived.Laws.BytesArg
import Derived.Lib.SlBuf
import Derived.ChangeAlike
import Derived.Deep.RegionHeld3
import Derived.Deep.AppendLies
import Derived.Deep.RegionLaw
import Derived.BigRegion
namespace Go.Proofs.YtajegiifabfcjaaGreatDoor
open Go.RowKit
def errV (f:Int):Value:=if f=0 then .nilIface else .iface 95 (.int .i64 f)
theorem errV_nil:errV 0=.nilIface:=rfl
theorem errV_some {f:Int} (h:f≠0):errV f=.iface 95 (.int .i64 f):=by unfold errV; rw [if_neg h]
theorem ret_err {f g:Int} (h:g=f) (hf:f≠0):Ending.returned (.iface 95 (.int .i64 f))=Ending.returned (errV g):=by rw [h,errV_some hf]
theorem ret_nil {g:Int} (h:g=0):Ending.returned .nilIface=Ending.returned (errV g):=by rw [h,errV_nil]
set_option maxHeartbeats 1000000 in
theorem check_any (s:St) (a:Option Addr) (cap:Nat) (w:World) (hr:StR w s a) :
  Calls Tryz.prog 124 #[stV s a cap] w fun e w'=>e=.returned (errV (stateFault s))∧Below w.heap.size w w':=by
 obtain ⟨g,l,t,h,st⟩:=s
 have hr0:=hr
 obtain ⟨hl,hr⟩:=hr
 unfold maxLen at hl
 dsimp only at hl hr
 by_cases hg:g<0∨1000000000<g
 ·rw [sf_gen hg]
  rcases hg with hg | hg
  ·go_enter Tryz.func124,Tryz.ntmps124
   go_wp2
   go_ret
   exact ⟨ret_err rfl (by omega),bal w _⟩
  ·have hg':¬ g<0:=by omega
   go_enter Tryz.func124,Tryz.ntmps124
   go_wp2
   go_ret
   exact ⟨ret_err rfl (by omega),bal w _⟩
 have hg1:0≤g:=by omega
 have hg2:g≤1000000000:=by omega
 have FR:regsFault 0 l≠0→stateFault ⟨g,l,t,h,st⟩=regsFault 0 l:=fun hx=>sf_regs hg hx
 have FZ:regsFault 0 l=0→stateFault ⟨g,l,t,h,st⟩=sfRest ⟨g,l,t,h,st⟩:=fun hx=>sf_rest hg hx
 have HFR:=Lib.hid FR
 have HFZ:=Lib.hid FZ
 clear FR FZ hg
 go_enter Tryz.func124,Tryz.ntmps124
 go_wp2
 go_loopw [17] (fun i wr=>∃ k:Nat,k≤l.length∧i=.int .i64 k∧regsFault (prevOf l k) (l.drop k)=regsFault 0 l∧Below (w.heap.size+1) (w.alloc (.cells #[.int .i64 g,.slice a l.length cap,.int .i64 t,.int .i64 h,.bool st] 35)) wr) (fun i _=>l.length - (intOf i).toNat)
 case atStart=>exact ⟨0,by omega,rfl,rfl,Below.refl _ _⟩
 case round =>
  obtain ⟨k,hk,rfl,hK,hb⟩:=hrel
  have HK:=Lib.hid hK; clear hK
  have hs:=bsz hb
  have cw:∀ o,wr.cell? ⟨w.heap.size,o,none⟩=(w.alloc (.cells #[.int .i64 g,.slice a l.length cap,.int .i64 t,.int .i64 h,.bool st] 35)).cell? ⟨w.heap.size,o,none⟩:=fun o=>hb.cell (p:=⟨w.heap.size,o,none⟩) (by simp)
  have hs1:w.heap.size<wr.heap.size:=by omega
  by_cases hlt:k<l.length
  ·obtain ⟨b,o,rfl,hbs,h1,h2⟩:=hr k hlt
   have hs2:b<wr.heap.size:=by omega
   have c1:=((bover hb (by omega)).cell (p:=⟨b,o+k*2,none⟩) hbs).trans h1
   have c2:=((bover hb (by omega)).cell (p:=⟨b,o+k*2+1,none⟩) hbs).trans h2
   have fin:stateFault ⟨g,l,t,h,st⟩≠0→True:=fun _=>trivial
   by_cases b1:l[k].1<1∨4<l[k].1∨l[k].2<1∨999<l[k].2
   ·have e1:(1:Int)=stateFault ⟨g,l,t,h,st⟩:=by
     have:=rf_bound l k hlt (prevOf l k) b1
     rw [HK.out] at this
     rw [HFR.out (by omega),this]
    have E1:=Lib.hid e1; clear e1
    clear hr
    by_cases d1:l[k].1<1
    ·go_wp2
     go_ret
     exact ⟨ret_err E1.out.symm (by omega),(bover hb (by omega)).trans ((bal wr _).mono (by omega))⟩
    by_cases d2:4<l[k].1
    ·go_wp2
     go_ret
     exact ⟨ret_err E1.out.symm (by omega),(bover hb (by omega)).trans ((bal wr _).mono (by omega))⟩
    by_cases d3:l[k].2<1
    ·go_wp2
     go_ret
     exact ⟨ret_err E1.out.symm (by omega),(bover hb (by omega)).trans ((bal wr _).mono (by omega))⟩
    have d4:999<l[k].2:=by omega
    go_wp2
    go_ret
    exact ⟨ret_err E1.out.symm (by omega),(bover hb (by omega)).trans ((bal wr _).mono (by omega))⟩
   ·have d1:¬ l[k].1<1:=by omega
    have d2:¬ 4<l[k].1:=by omega
    have d3:¬ l[k].2<1:=by omega
    have d4:¬ 999<l[k].2:=by omega
    have B1:=Lib.hid b1; clear b1
    cases k with
    | zero =>
     have d0:decide ((0:Int)<((0:Nat):Int))=false:=by simp
     clear hr
     simp only [Nat.zero_mul,Nat.add_zero] at c1 c2
     go_wp2
     go_quiet (fail)
     go_wp2
     go_roundw
     case rel=>exact ⟨1,by omega,rfl,by rw [← HK.out,rf_on l 0 hlt _ B1.out (by simp only [prevOf]; omega),prevOf_succ l 0 hlt],below_drewN (hb.alloc (by omega) _) _⟩
     case measure=>simp [intOf]; omega
    | succ j =>
     have hj:j<l.length:=by omega
     obtain ⟨b',o',hbo,hbs',h1',h2'⟩:=hr j hj
     obtain ⟨rfl,rfl⟩:b=b'∧o=o':=by simpa using hbo
     have c3:=((bover hb (by omega)).cell (p:=⟨b,o+j*2,none⟩) hbs').trans h1'
     clear hr
     have x1:IntKind.i64.wrap ((j:Int)+1 - 1)=(j:Int):=by rw [IntWalk.i64_in _ (by omega)]; omega
     have x2:(j:Int)+1 - 1=(j:Int):=by omega
     by_cases b2:l[j+1].1≤l[j].1
     ·have e2:(2:Int)=stateFault ⟨g,l,t,h,st⟩:=by
       have:=rf_shape l (j+1) hlt (prevOf l (j+1)) B1.out (by rw [prevOf_succ l j hj]; exact b2)
       rw [HK.out] at this
       rw [HFR.out (by omega),this]
      have E2:=Lib.hid e2; clear e2
      go_wp2
      go_quiet (fail)
      go_wp2
      go_ret
      exact ⟨ret_err E2.out.symm (by omega),below_drewN ((bover hb (by omega)).trans ((bal wr _).mono (by omega))) _⟩
     ·go_wp2
      go_quiet (fail)
      go_wp2
      go_roundw
      case rel=>exact ⟨j+2,by omega,by go_num,by rw [← HK.out,rf_on l (j+1) hlt _ B1.out (by rw [prevOf_succ l j hj]; omega),prevOf_succ l (j+1) hlt],below_drewN (hb.alloc (by omega) _) _⟩
      case measure=>simp [intOf]; omega
  ·have hz:regsFault 0 l=0:=by rw [← HK.out,List.drop_of_length_le (by omega)]; rfl
   have e0:=HFZ.out hz
   have E0:=Lib.hid e0
   clear e0 hz HFR HFZ HK
   have hrw:StR wr ⟨g,l,t,h,st⟩ a:=hr0.below (bover hb (by omega))
   clear hr hr0
   have fin:∀ (w2:World) (f:Int),Below wr.heap.size wr w2→stateFault ⟨g,l,t,h,st⟩=f→f≠0→Ending.returned (.iface 95 (.int .i64 f))=Ending.returned (errV (stateFault ⟨g,l,t,h,st⟩))∧Below w.heap.size w w2 :=
    fun w2 f hb2 e hf=>⟨ret_err e hf,(bover hb (by omega)).trans (hb2.mono (by omega))⟩
   have fin0:∀ (w2:World),Below wr.heap.size wr w2→stateFault ⟨g,l,t,h,st⟩=0→Ending.returned .nilIface=Ending.returned (errV (stateFault ⟨g,l,t,h,st⟩))∧Below w.heap.size w w2 :=
    fun w2 hb2 e=>⟨ret_nil e,(bover hb (by omega)).trans (hb2.mono (by omega))⟩
   have FIN:=Lib.hid fin
   have FIN0:=Lib.hid fin0
   clear fin fin0
   by_cases t0:t=0
   ·subst t0
    by_cases h0:h=0
    ·subst h0
     go_wp2
     go_ret
     exact FIN0.out _ (Below.refl _ _) (by rw [E0.out]; rfl)
    ·have hh:(h != 0)=true:=by simp [h0]
     go_wp2
     go_ret
     exact FIN.out _ _ (Below.refl _ _) (by rw [E0.out]; simp [sfRest,h0]) (by omega)
   have t0':(t == 0)=false:=by simp [t0]
   have cb:∀ (w1:World),Below wr.heap.size wr w1→∀ o,w1.cell? ⟨w.heap.size,o,none⟩=(w.alloc (.cells #[.int .i64 g,.slice a l.length cap,.int .i64 t,.int .i64 h,.bool st] 35)).cell? ⟨w.heap.size,o,none⟩ :=
    fun w1 hb1 o=>(hb1.cell (p:=⟨w.heap.size,o,none⟩) (by show w.heap.size<_; omega)).trans (cw o)
   have CB:=Lib.hid cb
   clear cb cw
   cases htm:typeMay t
   ·have er:stateFault ⟨g,l,t,h,st⟩=2:=by rw [E0.out]; simp [sfRest,t0,htm]
    have ER:=Lib.hid er
    clear er
    have cw1:=CB.out _ (Below.refl _ wr)
    go_wp2_with fail
    refine (type_any t _).mono ?_
    rintro e w1 ⟨rfl,hb1⟩
    have cw2:=CB.out _ hb1
    go_wp2
    go_ret
    exact FIN.out _ _ hb1 ER.out (by omega)
   ·by_cases t7:7≤t
    ·have ha:allT t=true:=by simp [typeMay] at htm; simp [allT]; omega
     by_cases h0:h=0
     ·subst h0
      have hlen':l.length=0∨l.length≠0:=by omega
      rcases hlen' with hlen | hlen
      ·have er:stateFault ⟨g,l,t,0,st⟩=2:=by rw [E0.out]; simp [sfRest,t0,htm,t7,hlen]
       have ER:=Lib.hid er
       have hle:((l.length:Int) == 0)=true:=by simp [hlen]
       clear er hlen
       have cw1:=CB.out _ (Below.refl _ wr)
       go_wp2_with fail
       refine (type_any t _).mono ?_
       rintro e w1 ⟨rfl,hb1⟩
       have cw2:=CB.out _ hb1
       go_wp2_with fail
       refine (all_any ⟨g,l,t,0,st⟩ a cap _).mono ?_
       rintro e w2 ⟨rfl,hb2⟩
       have hb12:=hb1.trans (hb2.mono hb1.size)
       have cw3:=CB.out _ hb12
       go_wp2
       go_ret
       exact FIN.out _ _ hb12 ER.out (by omega)
      ·have er:stateFault ⟨g,l,t,0,st⟩=0:=by
        have:l≠[]:=fun e=>hlen (by rw [e]; rfl)
        rw [E0.out]; simp [sfRest,t0,htm,t7,this]
       have ER:=Lib.hid er
       have hle:((l.length:Int) == 0)=false:=by simp; exact fun e=>hlen (by rw [e]; rfl)
       clear er hlen
       have cw1:=CB.out _ (Below.refl _ wr)
       go_wp2_with fail
       refine (type_any t _).mono ?_
       rintro e w1 ⟨rfl,hb1⟩
       have cw2:=CB.out _ hb1
       go_wp2_with fail
       refine (all_any ⟨g,l,t,0,st⟩ a cap _).mono ?_
       rintro e w2 ⟨rfl,hb2⟩
       have hb12:=hb1.trans (hb2.mono hb1.size)
       have cw3:=CB.out _ hb12
       go_wp2_with fail
       refine (all_any ⟨g,l,t,0,st⟩ a cap _).mono ?_
       rintro e w3 ⟨rfl,hb3⟩
       have hb13:=hb12.trans (hb3.mono hb12.size)
       have cw4:=CB.out _ hb13
       go_wp2
       go_ret
       exact FIN0.out _ hb13 ER.out
     ·have hh:(h != 0)=true:=by simp [h0]
      have er:stateFault ⟨g,l,t,h,st⟩=2:=by rw [E0.out]; simp [sfRest,t0,htm,t7,h0]
      have ER:=Lib.hid er
      clear er
      have cw1:=CB.out _ (Below.refl _ wr)
      go_wp2_with fail
      refine (type_any t _).mono ?_
      rintro e w1 ⟨rfl,hb1⟩
      have cw2:=CB.out _ hb1
      go_wp2_with fail
      refine (all_any ⟨g,l,t,h,st⟩ a cap _).mono ?_
      rintro e w2 ⟨rfl,hb2⟩
      have hb12:=hb1.trans (hb2.mono hb1.size)
      have cw3:=CB.out _ hb12
      go_wp2
      go_ret
      exact FIN.out _ _ hb12 ER.out (by omega)
    ·have ha:allT t=false:=by simp [allT]; omega
     have hk':keyOf l h=0∨keyOf l h≠0:=by omega
     rcases hk' with hk0 | hk0
     ·have er:stateFault ⟨g,l,t,h,st⟩=2:=by rw [E0.out]; simp [sfRest,t0,htm,t7,hk0]
      have ER:=Lib.hid er
      have hkb:(keyOf l h == 0)=true:=by simp [hk0]
      clear er hk0
      have cw1:=CB.out _ (Below.refl _ wr)
      go_wp2_with fail
      refine (type_any t _).mono ?_
      rintro e w1 ⟨rfl,hb1⟩
      have cw2:=CB.out _ hb1
      go_wp2_with fail
      refine (all_any ⟨g,l,t,h,st⟩ a cap _).mono ?_
      rintro e w2 ⟨rfl,hb2⟩
      have hb12:=hb1.trans (hb2.mono hb1.size)
      have cw3:=CB.out _ hb12
      go_wp2_with fail
      refine (all_any ⟨g,l,t,h,st⟩ a cap _).mono ?_
      rintro e w3 ⟨rfl,hb3⟩
      have hb13:=hb12.trans (hb3.mono hb12.size)
      have cw4:=CB.out _ hb13
      have hr3:=hrw.below hb13
      go_wp2_with fail
      refine (key_any ⟨g,l,t,h,st⟩ a cap h _ hr3).mono ?_
      rintro e w4 ⟨rfl,hb4⟩
      go_wp2
      go_ret
      exact FIN.out _ _ (hb13.trans (hb4.mono hb13.size)) ER.out (by omega)
     ·have er:stateFault ⟨g,l,t,h,st⟩=0:=by rw [E0.out]; simp [sfRest,t0,htm,t7,hk0]
      have ER:=Lib.hid er
      have hkb:(keyOf l h == 0)=false:=by simp [hk0]
      clear er hk0
      have cw1:=CB.out _ (Below.refl _ wr)
      go_wp2_with fail
      refine (type_any t _).mono ?_
      rintro e w1 ⟨rfl,hb1⟩
      have cw2:=CB.out _ hb1
      go_wp2_with fail
      refine (all_any ⟨g,l,t,h,st⟩ a cap _).mono ?_
      rintro e w2 ⟨rfl,hb2⟩
      have hb12:=hb1.trans (hb2.mono hb1.size)
      have cw3:=CB.out _ hb12
      go_wp2_with fail
      refine (all_any ⟨g,l,t,h,st⟩ a cap _).mono ?_
      rintro e w3 ⟨rfl,hb3⟩
      have hb13:=hb12.trans (hb3.mono hb12.size)
      have cw4:=CB.out _ hb13
      have hr3:=hrw.below hb13
      go_wp2_with fail
      refine (key_any ⟨g,l,t,h,st⟩ a cap h _ hr3).mono ?_
      rintro e w4 ⟨rfl,hb4⟩
      go_wp2
      go_ret
      exact FIN0.out _ (hb13.trans (hb4.mono hb13.size)) ER.out
structure Dk where
 kept:List ByteArray
 now:List ByteArray
 wait:List (Nat × ByteArray)
 fuse:Int
 down:Bool
def zerosB (n:Nat):ByteArray:=strOfNums (List.replicate n 0)
def fullB (s:ByteArray):ByteArray:=s ++ zerosB (64 - s.size)
def Dk.steps (d:Dk):Bool:=!d.down && decide (d.fuse≠0)
def Dk.step (d:Dk):Dk :=
 if d.down then d else if d.fuse=0 then { d with down:=true,fuse:=-1 } else { d with fuse:=if 0<d.fuse then d.fuse - 1 else -1 }
structure Dk.ok (n:Nat) (d:Dk):Prop where
 n40:n≤40
 kl:d.kept.length=n
 nl:d.now.length=n
 wl:∀ r∈d.wait,r.1<n
 fu:-1≤d.fuse
 fm:d.fuse≤9223372036854775807
theorem Dk.step_ok {n:Nat} {d:Dk} (h:d.ok n):d.step.ok n:=by
 have:=h.fu
 have:=h.fm
 unfold Dk.step
 split
 ·exact h
 ·split
  ·exact ⟨h.n40,h.kl,h.nl,h.wl,by simp,by simp⟩
  ·split
   ·exact ⟨h.n40,h.kl,h.nl,h.wl,by show -1≤d.fuse - 1; omega,by show d.fuse - 1≤_; omega⟩
   ·exact ⟨h.n40,h.kl,h.nl,h.wl,by simp,by simp⟩
def strs (l:List ByteArray):List Value:=l.map .string
def wcells (l:List (Nat × ByteArray)):List Value:=l.flatMap fun r=>[.int .i64 r.1,.string r.2]
theorem wcells_append (l m:List (Nat × ByteArray)):wcells (l ++ m)=wcells l ++ wcells m:=by simp [wcells]
theorem wcells_at:∀ (l:List (Nat × ByteArray)) (i:Nat) (h:i<l.length),(wcells l)[i*2]?=some (.int .i64 (l[i]).1)∧(wcells l)[i*2+1]?=some (.string (l[i]).2)
 | r :: l,0,_=>by simp [wcells]
 | r :: l,i+1,h=>by
  have:=wcells_at l i (by simpa using h)
  have e:wcells (r :: l)=.int .i64 r.1 :: .string r.2 :: wcells l:=rfl
  rw [e,show (i+1)*2=i*2+1+1 from by omega]
  simpa using this
theorem wcells_one (l:List (Nat × ByteArray)):∀ u∈wcells l,u.oneCell'=true:=by
 intro u hu
 simp only [wcells,List.mem_flatMap,List.mem_cons,List.mem_nil_iff,or_false] at hu
 obtain ⟨r,_,h | h⟩:=hu <;> subst h <;> rfl
theorem strs_one (l:List ByteArray):∀ u∈strs l,u.oneCell'=true:=by
 intro u hu
 simp only [strs,List.mem_map] at hu
 obtain ⟨r,_,h⟩:=hu; subst h; rfl
def RowS (w:World) (g:Nat) (l:List ByteArray):Prop :=
 ∃ cur:Array Value,w.heap[g]?=some (.cells cur 9 (0,0))∧l.length≤cur.size∧cur.toList.take l.length=strs l
theorem RowS.lt {w:World} {g:Nat} {l:List ByteArray} (h:RowS w g l):g<w.heap.size:=by
 obtain ⟨cur,h1,-⟩:=h
 exact (Array.getElem?_eq_some_iff.1 h1).1
theorem RowS.cell {w:World} {g:Nat} {l:List ByteArray} (h:RowS w g l) {i:Nat} (hi:i<l.length):w.cell? ⟨g,i,none⟩=some (.string l[i])∧w.frozen? ⟨g,i,none⟩=false:=by
 obtain ⟨cur,h1,h2,h3⟩:=h
 refine ⟨?_,by simp [World.frozen?,h1]⟩
 have:(cur.toList.take l.length)[i]?=(strs l)[i]?:=by rw [h3]
 rw [List.getElem?_take_of_lt hi] at this
 simp only [World.cell?,h1]
 simpa [strs,hi] using this
theorem RowS.move {w w':World} {g:Nat} {l:List ByteArray} (h:RowS w g l) (e:w'.heap[g]?=w.heap[g]?):RowS w' g l:=by
 obtain ⟨cur,h1,h2⟩:=h
 exact ⟨cur,e.trans h1,h2⟩
theorem RowS.set {w:World} {g:Nat} {l:List ByteArray} (h:RowS w g l) (i:Nat) (s:ByteArray):RowS (w.setCell ⟨g,i,none⟩ (.string s)) g (l.set i s):=by
 obtain ⟨cur,h1,h2,h3⟩:=h
 refine ⟨_,block_setCell h1 _,by simpa using h2,?_⟩
 rw [Array.toList_setIfInBounds,List.length_set,List.take_set,h3]
 simp [strs,List.map_set]
theorem RowS.put {w:World} {g:Nat} {l m:List ByteArray} (h:RowS w g l) (cur:Array Value) (hc:w.heap[g]?=some (.cells cur 9 (0,0))):RowS (w.setRow g (cur.toList.take 0 ++ strs m ++ cur.toList.drop (0+(strs m).length)).toArray) g m:=by
 obtain ⟨cur',h1,h2,h3⟩:=h
 obtain rfl:cur'=cur:=by rw [h1] at hc; simpa using hc
 refine ⟨_,setRow_heap _ _ _ _ _ _ h1,?_,?_⟩
 ·simp [strs]
 ·simp [strs]
structure DkR (w:World) (T Tt:TypeId) (D K N ck cn:Nat) (wv:Value) (n:Nat) (d:Dk):Prop where
 blk:w.heap[D]?=some (.cells #[.slice (some ⟨K,0,none⟩) n ck,.slice (some ⟨N,0,none⟩) n cn,wv,.int .i64 d.fuse,.bool d.down] T (0,0))
 kept:RowS w K d.kept
 now:RowS w N d.now
 wait:w.ownsRow 0 Tt 2 wv d.wait.length (wcells d.wait)
 kd:K≠D
 nd:N≠D
 kn:K≠N
 wd:wv.ownBlock≠some D
 wk:wv.ownBlock≠some K
 wn:wv.ownBlock≠some N
 nc:n≤ck∧n≤cn
def DkAt (S:Nat→Prop) (w:World) (T Tt:TypeId) (D n:Nat) (d:Dk):Prop :=
 ∃ K N ck cn wv,DkR w T Tt D K N ck cn wv n d∧S D∧S K∧S N∧∀ k,wv.ownBlock=some k→S k
def grow (S:Nat→Prop) (w w':World):Nat→Prop:=fun k=>S k∨w.heap.size≤k∧k<w'.heap.size
theorem own_lt {w:World} {B:Nat} {e:TypeId} {s:Nat} {v:Value} {n:Nat} {xs:List Value} (h:w.ownsRow B e s v n xs) {k:Nat} (hk:v.ownBlock=some k):k<w.heap.size:=by
 rcases h.2 with ⟨rfl,-⟩ | ⟨g,cap,cur,rfl,-,hg,-⟩
 ·cases hk
 ·obtain rfl:g=k:=by simpa [Value.ownBlock] using hk
  exact (Array.getElem?_eq_some_iff.1 hg).1
theorem own_move {w w':World} {B:Nat} {e:TypeId} {s:Nat} {v:Value} {n:Nat} {xs:List Value} (h:w.ownsRow B e s v n xs) (hb:∀ k,v.ownBlock=some k→w'.heap[k]?=w.heap[k]?):w'.ownsRow B e s v n xs:=by
 refine ⟨h.1,?_⟩
 rcases h.2 with h2 | ⟨g,cap,cur,rfl,e2,e3,e4⟩
 ·exact .inl h2
 ·exact .inr ⟨g,cap,cur,rfl,e2,(hb g rfl).trans e3,e4⟩
theorem DkR.move {w w':World} {T Tt:TypeId} {D K N ck cn:Nat} {wv:Value} {n:Nat} {d:Dk} (h:DkR w T Tt D K N ck cn wv n d)
  (hb:∀ k,(k=D∨k=K∨k=N∨wv.ownBlock=some k)→w'.heap[k]?=w.heap[k]?):DkR w' T Tt D K N ck cn wv n d :=
 ⟨(hb D (.inl rfl)).trans h.blk,h.kept.move (hb K (.inr (.inl rfl))),h.now.move (hb N (.inr (.inr (.inl rfl)))),own_move h.wait (fun k hk=>hb k (.inr (.inr (.inr hk)))),h.kd,h.nd,h.kn,h.wd,h.wk,h.wn,h.nc⟩
theorem DkR.lt {w:World} {T Tt:TypeId} {D K N ck cn:Nat} {wv:Value} {n:Nat} {d:Dk} (h:DkR w T Tt D K N ck cn wv n d):D<w.heap.size:=(Array.getElem?_eq_some_iff.1 h.blk).1
theorem DkR.below {w w':World} {T Tt:TypeId} {D K N ck cn:Nat} {wv:Value} {n:Nat} {d:Dk} (h:DkR w T Tt D K N ck cn wv n d) (b:Below w.heap.size w w'):DkR w' T Tt D K N ck cn wv n d :=
 h.move (fun k hk=>b.block k (by
  rcases hk with e | e | e | e
  ·exact e▸h.lt
  ·exact e▸h.kept.lt
  ·exact e▸h.now.lt
  ·exact own_lt h.wait e))
theorem DkAt.keeps {S R:Nat→Prop} {w w':World} {T Tt:TypeId} {D n:Nat} {d:Dk} (h:DkAt S w T Tt D n d) (k:Keeps R w w') (hd:∀ b,S b→¬ R b):DkAt S w' T Tt D n d:=by
 obtain ⟨K,N,ck,cn,wv,r,s1,s2,s3,s4⟩:=h
 refine ⟨K,N,ck,cn,wv,r.move (fun b hb=>k.block b (hd b ?_) ?_),s1,s2,s3,s4⟩
 ·rcases hb with e | e | e | e
  ·exact e▸s1
  ·exact e▸s2
  ·exact e▸s3
  ·exact s4 _ e
 ·rcases hb with e | e | e | e
  ·exact e▸r.lt
  ·exact e▸r.kept.lt
  ·exact e▸r.now.lt
  ·exact own_lt r.wait e
theorem DkAt.below {S:Nat→Prop} {w w':World} {T Tt:TypeId} {D n:Nat} {d:Dk} (h:DkAt S w T Tt D n d) (b:Below w.heap.size w w'):DkAt S w' T Tt D n d:=by
 obtain ⟨K,N,ck,cn,wv,r,s1,s2,s3,s4⟩:=h
 exact ⟨K,N,ck,cn,wv,r.below b,s1,s2,s3,s4⟩
theorem DkAt.mono {S R:Nat→Prop} {w:World} {T Tt:TypeId} {D n:Nat} {d:Dk} (h:DkAt S w T Tt D n d) (hs:∀ k,S k→R k):DkAt R w T Tt D n d:=by
 obtain ⟨K,N,ck,cn,wv,r,s1,s2,s3,s4⟩:=h
 exact ⟨K,N,ck,cn,wv,r,hs _ s1,hs _ s2,hs _ s3,fun k hk=>hs _ (s4 k hk)⟩
theorem DkR.cells {w:World} {T Tt:TypeId} {D K N ck cn:Nat} {wv:Value} {n:Nat} {d:Dk} (h:DkR w T Tt D K N ck cn wv n d) :
  (w.cell? ⟨D,0,none⟩=some (.slice (some ⟨K,0,none⟩) n ck)∧w.cell? ⟨D,1,none⟩=some (.slice (some ⟨N,0,none⟩) n cn)∧w.cell? ⟨D,2,none⟩=some wv∧w.cell? ⟨D,3,none⟩=some (.int .i64 d.fuse)∧w.cell? ⟨D,4,none⟩=some (.bool d.down)) ∧
  w.frozen? ⟨D,0,none⟩=false∧w.frozen? ⟨D,1,none⟩=false∧w.frozen? ⟨D,2,none⟩=false∧w.frozen? ⟨D,3,none⟩=false∧w.frozen? ⟨D,4,none⟩=false:=by
 simp [World.cell?,World.frozen?,h.blk]
theorem DkR.setF {w:World} {T Tt:TypeId} {D K N ck cn:Nat} {wv:Value} {n:Nat} {d:Dk} (h:DkR w T Tt D K N ck cn wv n d) (f:Int):DkR (w.setCell ⟨D,3,none⟩ (.int .i64 f)) T Tt D K N ck cn wv n { d with fuse:=f }:=by
 have o:∀ k,k≠D→(w.setCell ⟨D,3,none⟩ (.int .i64 f)).heap[k]?=w.heap[k]?:=fun k hk=>Below.heap_setCell _ _ _ _ hk
 exact ⟨block_setCell h.blk _,h.kept.move (o K h.kd),h.now.move (o N h.nd),own_move h.wait (fun k hk=>o k (fun e=>h.wd (e▸hk))),h.kd,h.nd,h.kn,h.wd,h.wk,h.wn,h.nc⟩
theorem DkR.setD {w:World} {T Tt:TypeId} {D K N ck cn:Nat} {wv:Value} {n:Nat} {d:Dk} (h:DkR w T Tt D K N ck cn wv n d) (f:Bool):DkR (w.setCell ⟨D,4,none⟩ (.bool f)) T Tt D K N ck cn wv n { d with down:=f }:=by
 have o:∀ k,k≠D→(w.setCell ⟨D,4,none⟩ (.bool f)).heap[k]?=w.heap[k]?:=fun k hk=>Below.heap_setCell _ _ _ _ hk
 exact ⟨block_setCell h.blk _,h.kept.move (o K h.kd),h.now.move (o N h.nd),own_move h.wait (fun k hk=>o k (fun e=>h.wd (e▸hk))),h.kd,h.nd,h.kn,h.wd,h.wk,h.wn,h.nc⟩
theorem Tryz.infoU8:(Tryz.prog.info? 5).map (fun i=>(i.zero,i.size,i.bytes))=some (some (.int .u8 0),1,1):=by kernel_rfl
theorem zerosB_size (n:Nat):(zerosB n).size=n:=by unfold zerosB; rw [strOfNums_size]; simp
theorem own_zeros {w:World} {B b n:Nat} (h:w.ownsRow B 5 1 (.slice (some ⟨b,0,none⟩) n n) n (madeCells #[.int .u8 0] n).toList) :
  ∀ i,i<n→w.cell? ⟨b,0+i,none⟩=some (.int .u8 ((List.replicate n 0).getD i 0)):=by
 intro i hi
 rcases h.2 with ⟨e,-⟩ | ⟨g,cap,cur,e,-,hg,-,-,-,ht⟩
 ·cases e
 ·obtain ⟨rfl,rfl⟩:b=g∧n=cap:=by simpa using e
  have h1:(cur.toList.take (n*1))[i]?=((madeCells #[.int .u8 0] n).toList)[i]?:=by rw [ht]
  rw [List.getElem?_take_of_lt (by omega)] at h1
  have h2:((madeCells #[.int .u8 0] n).toList)[i]?=some (.int .u8 0):=by
   simp [madeCells,hi,Nat.mod_one]
  rw [h2] at h1
  have h3:(List.replicate n (0:Int)).getD i 0=0:=by simp [List.getD,hi]
  rw [h3]
  simp only [World.cell?,hg,Nat.zero_add]
  simpa using h1
theorem conv_zeros {w:World} {B b n:Nat} (h:w.ownsRow B 5 1 (.slice (some ⟨b,0,none⟩) n n) n (madeCells #[.int .u8 0] n).toList) :
  (convert 180 9 (.slice (some ⟨b,0,none⟩) n n)).run Tryz.prog w=.ok (.string (zerosB n)) w :=
 run_convert_bytes_arg w 180 5 Tryz.underlying180 Tryz.underlying5 b 0 n n (List.replicate n 0) (by simp) (own_zeros h) 9 Tryz.underlying9
theorem full_any (s:ByteArray) (w:World) (hs:s.size≤64) :
  Calls Tryz.prog 82 #[.string s] w fun e w'=>e=.returned (.string (fullB s))∧Below w.heap.size w w':=by
 obtain ⟨i0,hi,hz0,hz1,hz2⟩:=info_parts Tryz.infoU8
 obtain ⟨n,hn⟩:∃ n,64 - s.size=n:=⟨_,rfl⟩
 have q:IntKind.i64.wrap (64 - (s.size:Int))=(n:Int):=by rw [IntWalk.i64_in _ (by omega)]; omega
 have HN:=Lib.hid (show n≤64 by omega)
 rw [show fullB s=s ++ zerosB n from by rw [← hn]; rfl]
 have hadd:=fun w=>run_string_add_sum (P:=Tryz.prog) w s (zerosB n) (by rw [zerosB_size]; omega)
 clear hs hn
 go_enter Tryz.func82,Tryz.ntmps82
 go_wp2_with (refine wpList_make_full _ rfl _ _ 180 rfl w.heap.size 5 i0 (.int .u8 0) 1 Tryz.underlying180 hi hz0 hz1 .i64 .i64 n n n rfl rfl rfl rfl ?b2 ?b3 (Nat.le_refl _) ?_)
 case b2=>have:=HN.out; rw [hz2]; omega
 case b3=>have:=HN.out; unfold maxLen; omega
 intro w1 hown hg
 have hcv:=conv_zeros hown
 have B1:=Lib.hid (show Below w.heap.size w w1 from (Below.refl _ _).grown hg (by simp) (fun k hk=>by simp at hk))
 clear hown hg
 go_wp2
 go_ret
 exact ⟨rfl,B1.out⟩
theorem max_step (f:Int) (h:-1≤f):(if 0<f then f - 1 else -1)=max (f - 1) (-1):=by
 split <;> omega
set_option maxRecDepth 100000 in
theorem step_any (w:World) (D K N ck cn n:Nat) (wv:Value) (d:Dk) (h:DkR w 132 134 D K N ck cn wv n d) (hf:-1≤d.fuse∧d.fuse≤9223372036854775807) :
  Calls Tryz.prog 110 #[.pointer (some ⟨D,0,none⟩)] w fun e w'=>e=.returned (errV (if d.steps then 0 else 10))∧DkR w' 132 134 D K N ck cn wv n d.step∧Keeps (·=D) w w':=by
 obtain ⟨kept,now,wait,f,b⟩:=d
 have H:=Lib.hid h
 obtain ⟨⟨c0,c1,c2,c3,c4⟩,f0,f1,f2,f3,f4⟩:=h.cells
 dsimp only at c3 c4 hf
 clear h
 cases b
 ·by_cases hz:f=0
  ·subst hz
   have H2:=Lib.hid ((H.out.setD true).setF (-1))
   have KP:=Lib.hid (((Keeps.refl (·=D) w).setCell (p:=⟨D,4,none⟩) rfl (.bool true)).setCell (p:=⟨D,3,none⟩) rfl (.int .i64 (-1)))
   clear hf
   go_enter Tryz.func110,Tryz.ntmps110
   go_wp2
   go_ret
   exact ⟨rfl,H2.out,KP.out⟩
  ·have H2:=Lib.hid (H.out.setF (max (f - 1) (-1)))
   have KP:=Lib.hid ((Keeps.refl (·=D) w).setCell (p:=⟨D,3,none⟩) rfl (.int .i64 (max (f - 1) (-1))))
   have q1:IntKind.i64.wrap (f - 1)=f - 1:=IntWalk.i64_in _ (by omega)
   have q2:(f == 0)=false:=by simp [hz]
   have HS:=Lib.hid (show Dk.step ⟨kept,now,wait,f,false⟩=⟨kept,now,wait,max (f - 1) (-1),false⟩ from by
    unfold Dk.step
    rw [if_neg (by simp),if_neg hz,← max_step f hf.1])
   have HT:=Lib.hid (show Dk.steps ⟨kept,now,wait,f,false⟩=true from by unfold Dk.steps; simp [hz])
   clear hf
   rw [HS.out,HT.out]
   clear hz HS HT
   go_enter Tryz.func110,Tryz.ntmps110
   go_wp2
   go_ret
   exact ⟨rfl,H2.out,KP.out⟩
 ·clear hf
  go_enter Tryz.func110,Tryz.ntmps110
  go_wp2
  go_ret
  exact ⟨rfl,H.out,Keeps.refl _ _⟩
def Dk.write (n:Nat) (d:Dk) (p:Int) (s:ByteArray):Dk :=
 if p<0∨n≤p∨64<s.size then d
 else if d.steps then { d.step with now:=d.now.set p.toNat (fullB s),wait:=d.wait ++ [(p.toNat,fullB s)] } else d.step
def Dk.writeF (n:Nat) (d:Dk) (p:Int) (s:ByteArray):Int :=
 if p<0∨n≤p∨64<s.size then 1 else if d.steps then 0 else 10
theorem Dk.step_lists (d:Dk):d.step.kept=d.kept∧d.step.now=d.now∧d.step.wait=d.wait:=by
 unfold Dk.step; split
 ·exact ⟨rfl,rfl,rfl⟩
 ·split <;> exact ⟨rfl,rfl,rfl⟩
theorem Dk.write_ok {n:Nat} {d:Dk} (h:d.ok n) (p:Int) (s:ByteArray):(d.write n p s).ok n:=by
 unfold Dk.write
 split
 ·exact h
 ·rename_i hp
  split
  ·have k:=Dk.step_ok h
   refine ⟨k.n40,k.kl,by simp [h.nl],?_,k.fu,k.fm⟩
   intro r hr
   simp only [List.mem_append,List.mem_singleton] at hr
   rcases hr with hr | rfl
   ·exact h.wl r hr
   ·show p.toNat<n; omega
  ·exact Dk.step_ok h
theorem DkR.setN {w:World} {T Tt:TypeId} {D K N ck cn:Nat} {wv:Value} {n:Nat} {d:Dk} (h:DkR w T Tt D K N ck cn wv n d) (k:Nat) (s:ByteArray) :
  DkR (w.setCell ⟨N,k,none⟩ (.string s)) T Tt D K N ck cn wv n { d with now:=d.now.set k s }:=by
 have o:∀ b,b≠N→(w.setCell ⟨N,k,none⟩ (.string s)).heap[b]?=w.heap[b]?:=fun b hb=>Below.heap_setCell _ _ _ _ hb
 exact ⟨(o D (Ne.symm h.nd)).trans h.blk,h.kept.move (o K h.kn),h.now.set k s,own_move h.wait (fun b hb=>o b (fun e=>h.wn (e▸hb))),h.kd,h.nd,h.kn,h.wd,h.wk,h.wn,h.nc⟩
theorem DkR.setW {w w1:World} {T Tt:TypeId} {D K N ck cn:Nat} {wv v:Value} {n m:Nat} {d:Dk} (h:DkR w T Tt D K N ck cn wv n d) {l:List (Nat × ByteArray)} (hm:m=l.length) (hown:w1.ownsRow 0 Tt 2 v m (wcells l))
  (hk:Keeps (fun b=>wv.ownBlock=some b) w w1) (hv:∀ b,v.ownBlock=some b→wv.ownBlock=some b∨w.heap.size≤b) :
  DkR (w1.setCell ⟨D,2,none⟩ v) T Tt D K N ck cn v n { d with wait:=l }:=by
 subst hm
 have o:∀ b,b≠D→(w1.setCell ⟨D,2,none⟩ v).heap[b]?=w1.heap[b]?:=fun b hb=>Below.heap_setCell _ _ _ _ hb
 have hD:=hk.block D h.wd h.lt
 have vd:v.ownBlock≠some D:=fun e=>by rcases hv D e with e | e; exact h.wd e; have:=h.lt; omega
 have vk:v.ownBlock≠some K:=fun e=>by rcases hv K e with e | e; exact h.wk e; have:=h.kept.lt; omega
 have vn:v.ownBlock≠some N:=fun e=>by rcases hv N e with e | e; exact h.wn e; have:=h.now.lt; omega
 exact ⟨block_setCell (hD.trans h.blk) _,h.kept.move ((o K h.kd).trans (hk.block K h.wk h.kept.lt)),h.now.move ((o N h.nd).trans (hk.block N h.wn h.now.lt)),
  own_move hown (fun b hb=>o b (fun e=>vd (e▸hb))),h.kd,h.nd,h.kn,vd,vk,vn,h.nc⟩
theorem infoTurn:(Tryz.prog.info? 134).map (fun i=>(i.zero,i.size,i.bytes))=some (some (.agg #[.int .i64 0,.string ByteArray.empty]),2,24):=by kernel_rfl
theorem dk_cast {S:Nat→Prop} {w:World} {T Tt:TypeId} {D n:Nat} {d d':Dk} {Q:Prop} (h:DkAt S w T Tt D n d∧Q) (e:d=d'):DkAt S w T Tt D n d'∧Q:=e▸h
theorem dwrite_fin {S:Nat→Prop} {w w5 w6:World} {T Tt:TypeId} {D K N ck cn n k g6 cap6:Nat} {wv:Value} {d5:Dk} {F:ByteArray} {o:Obj} (r:DkR w5 T Tt D K N ck cn wv n d5) (k5:Keeps S w w5)
  (s1:S D) (s2:S K) (s3:S N) (s4:∀ k,wv.ownBlock=some k→S k)
  (hown:w6.ownsRow 0 Tt 2 (.slice (some ⟨g6,0,none⟩) (d5.wait.length+1) cap6) (d5.wait.length+1) (wcells d5.wait ++ [.int .i64 k,.string F]))
  (hg:(w5.drew.alloc o).grownBy w6 wv.ownBlock) (hat:wv.ownBlock=some g6∨g6=(w5.drew.alloc o).heap.size) (hlt:g6<w6.heap.size) (w':World) (hw:w'=w6.setCell ⟨D,2,none⟩ (.slice (some ⟨g6,0,none⟩) (d5.wait.length+1) cap6)) :
  DkAt (grow S w w') w' T Tt D n { d5 with wait:=d5.wait ++ [(k,F)] }∧Keeps S w w':=by
 subst hw
 have e:wcells d5.wait ++ [.int .i64 k,.string F]=wcells (d5.wait ++ [(k,F)]):=by rw [wcells_append]; rfl
 rw [e] at hown
 have k6:Keeps (fun b=>wv.ownBlock=some b) w5 w6:=⟨hg.os,hg.tape,hg.output,Nat.le_trans (by simp) hg.size,fun b hb hl=>(hg.block b (by simp; omega) (Ne.symm hb)).trans (Below.heap_alloc _ _ _ hl)⟩
 have kk:Keeps S w (w6.setCell ⟨D,2,none⟩ (.slice (some ⟨g6,0,none⟩) (d5.wait.length+1) cap6)):=(k5.trans (k6.mono s4)).setCell (p:=⟨D,2,none⟩) s1 _
 refine ⟨⟨K,N,ck,cn,_,r.setW (by simp) hown k6 ?_,.inl s1,.inl s2,.inl s3,?_⟩,kk⟩
 ·intro b hb
  obtain rfl:g6=b:=by simpa [Value.ownBlock] using hb
  rcases hat with h | h
  ·exact .inl h
  ·right; rw [h]; simp
 ·intro b hb
  obtain rfl:g6=b:=by simpa [Value.ownBlock] using hb
  rcases hat with h | h
  ·exact .inl (s4 _ h)
  ·right
   refine ⟨?_,by simpa [World.setCell] using hlt⟩
   rw [h]
   have:=k5.size
   simp
   omega
set_option maxRecDepth 100000 in
set_option maxHeartbeats 1000000 in
theorem dwrite_any (S:Nat→Prop) (w:World) (D n:Nat) (d:Dk) (p:Int) (s:ByteArray) (h:DkAt S w 132 134 D n d) (ok:d.ok n) (hwl:d.wait.length≤1000) :
  Calls Tryz.prog 85 #[.pointer (some ⟨D,0,none⟩),.int .i64 p,.string s] w fun e w'=>e=.returned (errV (d.writeF n p s))∧DkAt (grow S w w') w' 132 134 D n (d.write n p s)∧Keeps S w w':=by
 obtain ⟨K,N,ck,cn,wv,r,s1,s2,s3,s4⟩:=h
 have R:=Lib.hid r
 obtain ⟨⟨c0,c1,c2,c3,c4⟩,f0,f1,f2,f3,f4⟩:=r.cells
 have OK:=Lib.hid ok
 have S1:=Lib.hid s1
 have S2:=Lib.hid s2
 have S3:=Lib.hid s3
 have S4:=Lib.hid s4
 have same:∀ (w':World),Below w.heap.size w w'→DkAt (grow S w w') w' 132 134 D n d:=fun w' b=>⟨K,N,ck,cn,wv,R.out.below b,.inl S1.out,.inl S2.out,.inl S3.out,fun k hk=>.inl (S4.out k hk)⟩
 have SAME:=Lib.hid same
 clear r s1 s2 s3 s4 same ok
 by_cases h1:p<0
 ·have e1:d.writeF n p s=1:=if_pos (.inl h1)
  have e2:d.write n p s=d:=if_pos (.inl h1)
  rw [e1,e2]
  clear e1 e2
  go_enter Tryz.func85,Tryz.ntmps85
  go_wp2
  go_ret
  exact ⟨rfl,SAME.out _ (Below.refl _ _),Keeps.refl _ _⟩
 by_cases h2:(n:Int)≤p
 ·have e1:d.writeF n p s=1:=if_pos (.inr (.inl h2))
  have e2:d.write n p s=d:=if_pos (.inr (.inl h2))
  rw [e1,e2]
  clear e1 e2
  go_enter Tryz.func85,Tryz.ntmps85
  go_wp2
  go_ret
  exact ⟨rfl,SAME.out _ (Below.refl _ _),Keeps.refl _ _⟩
 by_cases h3:(64:Int)<s.size
 ·have e1:d.writeF n p s=1:=if_pos (.inr (.inr (by omega)))
  have e2:d.write n p s=d:=if_pos (.inr (.inr (by omega)))
  rw [e1,e2]
  clear e1 e2
  go_enter Tryz.func85,Tryz.ntmps85
  go_wp2
  go_ret
  exact ⟨rfl,SAME.out _ (Below.refl _ _),Keeps.refl _ _⟩
 have hno:¬ (p<0∨n≤p∨64<s.size):=by omega
 have e1:d.writeF n p s=if d.steps then 0 else 10:=if_neg hno
 have e2:d.write n p s=if d.steps then { d.step with now:=d.now.set p.toNat (fullB s),wait:=d.wait ++ [(p.toNat,fullB s)] } else d.step:=if_neg hno
 rw [e1,e2]
 clear e1 e2 hno
 have HSZ:=Lib.hid (show s.size≤64 by omega)
 obtain ⟨k,rfl⟩:∃ k:Nat,p=k:=⟨p.toNat,by omega⟩
 have HK:=Lib.hid (show k<n by omega)
 have STEP:=Lib.hid (step_any w D K N ck cn n wv d R.out ⟨OK.out.fu,OK.out.fm⟩)
 obtain ⟨W,hW⟩:∃ W,d.wait.length=W:=⟨_,rfl⟩
 have HWL:=Lib.hid (show W≤1000 by omega)
 have HW:=Lib.hid hW
 have q1:decide ((k:Int)<0)=false:=by rw [decide_eq_false_iff_not]; omega
 have q2:decide (n≤k)=false:=by rw [decide_eq_false_iff_not]; omega
 have q3:decide ((64:Int)<(s.size:Int))=false:=by rw [decide_eq_false_iff_not]; omega
 have hkn:(k:Int)<(n:Int):=by omega
 have hk0:(0:Int)≤(k:Int):=by omega
 clear h1 h2 h3 hwl hW
 obtain ⟨B,hB⟩:∃ B,d.steps=B:=⟨_,rfl⟩
 rw [hB] at STEP ⊢
 clear hB
 go_enter Tryz.func85,Tryz.ntmps85
 go_wp2_with fail
 refine STEP.out.mono ?_
 clear STEP c0 c1 c2 c3 c4 f0 f1 f2 f3 f4
 rintro e w1 ⟨he,r1,k1⟩
 have R1:=Lib.hid r1
 have K1:=Lib.hid k1
 cases B
 ·obtain rfl:e=.returned (.iface 95 (.int .i64 10)):=he
  clear r1 k1
  go_wp2
  go_ret
  exact ⟨rfl,⟨K,N,ck,cn,wv,R1.out,.inl S1.out,.inl S2.out,.inl S3.out,fun b hb=>.inl (S4.out b hb)⟩,K1.out.mono (fun b hb=>hb▸S1.out)⟩
 obtain rfl:e=.returned .nilIface:=he
 have DW:=Lib.hid (show { d.step with now:=d.step.now.set k (fullB s),wait:=d.step.wait ++ [(k,fullB s)] }=(if true=true then { d.step with now:=d.now.set (k:Int).toNat (fullB s),wait:=d.wait ++ [((k:Int).toNat,fullB s)] } else d.step) from by rw [if_pos rfl,(Dk.step_lists d).2.1,(Dk.step_lists d).2.2]; rfl)
 obtain ⟨⟨-,c1,-,-,-⟩,-⟩:=r1.cells
 obtain ⟨kn1,fn1⟩:=r1.now.cell (i:=k) (by rw [(Dk.step_lists d).2.1,OK.out.nl]; exact HK.out)
 have hnlt:=r1.now.lt
 have FULL:=Lib.hid (fun w=>full_any s w HSZ.out)
 have KEEP:=Lib.hid (show ∀ w',Keeps (·=N) w1 w'→Keeps (·=N) w1 w'∧w'.cell? ⟨D,1,none⟩=some (.slice (some ⟨N,0,none⟩) n cn) from fun w' kp=>⟨kp,(kp.cell (Ne.symm R1.out.nd) R1.out.lt).trans c1⟩)
 have KEEP2:=Lib.hid (show ∀ w',Keeps (·=N) w1 w'→Keeps (·=N) w1 (w'.setCell ⟨N,k,none⟩ (.string (fullB s)))∧(w'.setCell ⟨N,k,none⟩ (.string (fullB s))).cell? ⟨D,1,none⟩=some (.slice (some ⟨N,0,none⟩) n cn) from fun w' kp=>KEEP.out _ (kp.setCell rfl _))
 clear r1 k1
 go_wp2
 go_region_held3 (fun w'=>Keeps (·=N) w1 w'∧w'.cell? ⟨D,1,none⟩=some (.slice (some ⟨N,0,none⟩) n cn))
  (first | (with_reducible refine KEEP2.out _ ?_; exact And.left (by assumption)) | (refine KEEP.out _ ?_; first | exact (Keeps.refl _ _).drew | exact Keeps.trans (And.left (by assumption)) (Keeps.of_below (by assumption))))
  (first | ((with_reducible refine (FULL.out _).mono ?_); rintro e w3 ⟨rfl,b3⟩; have kn3:=(b3.cell (p:=⟨N,k,none⟩) hnlt).trans kn1; have fn3:=(b3.frozen (p:=⟨N,k,none⟩) hnlt).trans fn1))
 have b3':Below w1.heap.size w1 w3:=(Below.refl _ w1).drew.trans (by assumption)
 obtain ⟨w5,hw5⟩:∃ w5,w5=w3.setCell ⟨N,k,none⟩ (.string (fullB s)):=⟨_,rfl⟩
 rw [← hw5]
 have kk:Keeps (·=N) w1 w5:=hw5▸(Keeps.of_below (S:=(·=N)) b3').setCell (p:=⟨N,k,none⟩) rfl _
 have K5:=Lib.hid ((K1.out.mono (fun b hb=>hb▸S1.out)).trans (kk.mono (fun b hb=>hb▸S3.out)))
 have r5:DkR w5 132 134 D K N ck cn wv n { d.step with now:=d.step.now.set k (fullB s) }:=hw5▸((R1.out.below b3').setN k (fullB s))
 clear hw5 kk b3' K1 R1 KEEP KEEP2 FULL kn1 fn1 hnlt c1
 clear b3 kn3 fn3
 obtain ⟨⟨-,c1,c2,-,-⟩,-,-,f2,-⟩:=r5.cells
 obtain ⟨kn5,-⟩:=r5.now.cell (i:=k) (by rw [List.length_set,(Dk.step_lists d).2.1,OK.out.nl]; exact HK.out)
 simp only [List.getElem_set_self] at kn5
 have R5:=Lib.hid r5
 clear r5
 obtain ⟨i0,hi,hz0,hz1,hz2⟩:=info_parts infoTurn
 have AT6:=Lib.hid (show ∀ (o:Obj) (w6:World),(w5.drew.alloc o).grownBy w6 wv.ownBlock→w6.cell? ⟨D,2,none⟩=some wv∧w6.frozen? ⟨D,2,none⟩=false from fun o w6 hg=>by
  have hb:w6.heap[D]?=w5.heap[D]?:=(hg.block D (by have:=R5.out.lt; simp; omega) (Ne.symm R5.out.wd)).trans (Below.heap_alloc _ _ _ R5.out.lt)
  simp [World.cell?,World.frozen?,hb,R5.out.blk])
 have a2:∀ o,(w5.alloc o).cell? ⟨D,2,none⟩=some wv:=fun o=>(World.cell?_alloc_some _ _ _ (by rw [c2]; rfl)).trans c2
 have a1:∀ o,(w5.alloc o).cell? ⟨D,1,none⟩=some (.slice (some ⟨N,0,none⟩) n cn):=fun o=>(World.cell?_alloc_some _ _ _ (by rw [c1]; rfl)).trans c1
 have ak:∀ o,(w5.alloc o).cell? ⟨N,k,none⟩=some (.string (fullB s)):=fun o=>(World.cell?_alloc_some _ _ _ (by rw [kn5]; rfl)).trans kn5
 go_wp2
 go_region_law (first | (refine step_append_lies _ (by rfl) _ _ _ (by rfl) 0 134 i0 _ 2 24 Tryz.underlying130 hi hz0 hz1 hz2 rfl (by omega) wv d.step.wait.length (wcells d.step.wait) (by rfl) (World.ownsRow.alloc R5.out.wait _) ⟨w5.heap.size,0,none⟩ 1 1 [.int .i64 k,.string (fullB s)] (by rfl) (by rfl) (World.news_of_block (heap_alloc_new _ _)) (wcells_one [(k,fullB s)]) (by omega) (by rw [(Dk.step_lists d).2.2,HW.out]; have:=HWL.out; unfold maxLen; omega) (by rw [(Dk.step_lists d).2.2,HW.out]; have:=HWL.out; omega) (by omega) _ rfl ?_; intro g6 cap6 w6 hown6 hgrow6 hat6 hlt6; have kd6:=(AT6.out _ _ hgrow6).1; have fd6:=(AT6.out _ _ hgrow6).2))
 all_goals
  have FIN:=Lib.hid (dwrite_fin R5.out K5.out S1.out S2.out S3.out S4.out hown6 hgrow6 hat6 hlt6 _ rfl)
  clear hown6 hgrow6 hat6 hlt6 a1 a2 ak
  go_wp2
  go_ret
  exact ⟨rfl,dk_cast FIN.out DW.out⟩
end Go.Proofs.YtajegiifabfcjaaGreatDoor
