/-
  Cmd, TellBox
-/
import Derived.Test.YtajegiifabfcjaaGreatDoorQ10
import Derived.Deep.DeepCutAuto
import Derived.Deep.CutBlock
import Derived.Lib.LazyBuf
import Derived.WalkSpells
namespace Go.Proofs.YtajegiifabfcjaaGreatDoor
open Go.RowKit Go.Sort
def cfS (c:Cmd):Int:=if smallB c.data=true∧smallB c.want=true then 0 else 2
def cfL (c:Cmd):Int:=if 8<c.data.size∨8<c.want.size then 1 else cfS c
def badParts (c:Cmd):Bool :=
 (decide (c.op=3∨c.op=4∨c.op=6) && !typeMay c.typ) || (decide (¬ (c.op=3∨c.op=4∨c.op=6)) && decide (c.typ≠0)) || (decide (2<c.op) && c.stays) || (decide (c.op<8) && decide (c.data.size≠0)) || (decide (c.op<9) && decide (c.want.size≠0))
def cfP (c:Cmd):Int:=if badParts c=true then 2 else cfL c
def stage (has:Bool) (x most:Int) (rest:Int):Int:=if has=false∧x≠0 then 2 else if x<0∨most<x then 1 else rest
def cfA (c:Cmd):Int:=stage (decide (7≤c.op)) c.at' 7 (cfP c)
def cfN (c:Cmd):Int:=stage (decide (c.op=1∨c.op=2∨c.op=6)) c.new 999 (cfA c)
def cfK (c:Cmd):Int:=stage (decide (c.op≤6)) c.key 999 (cfN c)
def cmdFault (c:Cmd):Int:=if c.op<1∨9<c.op then 2 else if c.who<1∨4<c.who then 1 else cfK c
theorem hasB_tab (n:Nat) (h:1≤n∧n≤9):hasB n 107=decide ((n:Int)≤6)∧hasB n 110=decide ((n:Int)=1∨(n:Int)=2∨(n:Int)=6)∧hasB n 97=decide (7≤(n:Int))∧hasB n 116=decide ((n:Int)=3∨(n:Int)=4∨(n:Int)=6)∧hasB n 115=decide (¬ 2<(n:Int))∧hasB n 100=decide (¬ (n:Int)<8)∧hasB n 119=decide (¬ (n:Int)<9):=by
 rcases (by omega:n=1∨n=2∨n=3∨n=4∨n=5∨n=6∨n=7∨n=8∨n=9) with rfl | rfl | rfl | rfl | rfl | rfl | rfl | rfl | rfl <;> decide +kernel
theorem has_x (n:Nat) (h:1≤n∧n≤9) (c:Int) (p:UInt8) (hc:c.toNat.toUInt8=p) (b:Bool) (hb:hasB n p=b) (w:World) :
  Calls Tryz.prog 50 #[.int .i64 n,.int .u8 c] w fun e w'=>e=.returned (.bool b)∧Below w.heap.size w w':=by
 subst hb; exact has_any n h c p hc w
theorem type_x (n:Int) (b:Bool) (hb:typeMay n=b) (w:World) :
  Calls Tryz.prog 51 #[.int .i64 n] w fun e w'=>e=.returned (.bool b)∧Below w.heap.size w w':=by
 subst hb; exact type_any n w
abbrev cmdC (c:Cmd):Array Value:=#[.int .i64 c.op,.int .i64 c.who,.int .i64 c.key,.int .i64 c.new,.int .i64 c.typ,.int .i64 c.at',.bool c.stays,.string c.data,.string c.want]
theorem box9 {w:World} {b:Nat} {c:Cmd} {T:TypeId} (h:w.heap[b]?=some (.cells (cmdC c) T (0,0))) :
  w.cell? ⟨b,0,none⟩=some (.int .i64 c.op)∧w.cell? ⟨b,1,none⟩=some (.int .i64 c.who)∧w.cell? ⟨b,2,none⟩=some (.int .i64 c.key)∧w.cell? ⟨b,3,none⟩=some (.int .i64 c.new)∧w.cell? ⟨b,4,none⟩=some (.int .i64 c.typ)∧w.cell? ⟨b,5,none⟩=some (.int .i64 c.at')∧w.cell? ⟨b,6,none⟩=some (.bool c.stays)∧w.cell? ⟨b,7,none⟩=some (.string c.data)∧w.cell? ⟨b,8,none⟩=some (.string c.want):=by
 simp [World.cell?,h]
abbrev tabC (c:Cmd):Array Value:=#[.int .u8 107,.int .i64 c.key,.int .i64 999,.int .u8 110,.int .i64 c.new,.int .i64 999,.int .u8 97,.int .i64 c.at',.int .i64 7]
theorem tab9 {w:World} {b:Nat} {c:Cmd} {T:TypeId} (h:w.heap[b]?=some (.cells (tabC c) T (0,0))) :
  w.cell? ⟨b,0,none⟩=some (.int .u8 107)∧w.cell? ⟨b,1,none⟩=some (.int .i64 c.key)∧w.cell? ⟨b,2,none⟩=some (.int .i64 999)∧w.cell? ⟨b,3,none⟩=some (.int .u8 110)∧w.cell? ⟨b,4,none⟩=some (.int .i64 c.new)∧w.cell? ⟨b,5,none⟩=some (.int .i64 999)∧w.cell? ⟨b,6,none⟩=some (.int .u8 97)∧w.cell? ⟨b,7,none⟩=some (.int .i64 c.at')∧w.cell? ⟨b,8,none⟩=some (.int .i64 7):=by
 simp [World.cell?,h]
def restF (c:Cmd):Nat→Int
 | 0=>cfK c
 | 1=>cfN c
 | 2=>cfA c
 | _=>cfP c
theorem stage_two {b:Bool} {x m r:Int} (hb:b=false) (hx:x≠0):stage b x m r=2:=by unfold stage; rw [if_pos ⟨hb,hx⟩]
theorem stage_one {b:Bool} {x m r:Int} (hb:¬ (b=false∧x≠0)) (hx:x<0∨m<x):stage b x m r=1:=by unfold stage; rw [if_neg hb,if_pos hx]
theorem stage_on {b:Bool} {x m r:Int} (hb:¬ (b=false∧x≠0)) (hx:¬ (x<0∨m<x)):stage b x m r=r:=by unfold stage; rw [if_neg hb,if_neg hx]
def CkPost (c:Cmd) (w:World) (e:Ending) (w':World):Prop:=e=.returned (errV (cmdFault c))∧Below w.heap.size w w'
theorem CkPost.err {c:Cmd} {w w':World} {f:Int} (h:cmdFault c=f) (hf:f≠0) (hb:Below w.heap.size w w'):CkPost c w (.returned (.iface 95 (.int .i64 f))) w':=⟨ret_err h hf,hb⟩
theorem CkPost.ok {c:Cmd} {w w':World} (h:cmdFault c=0) (hb:Below w.heap.size w w'):CkPost c w (.returned .nilIface) w':=⟨ret_nil h,hb⟩
theorem isEmpty_size (d:ByteArray):(!d.toList.isEmpty)=decide (d.size≠0):=by
 rw [ByteArray.toList_eq]
 cases d with | mk a=>cases a with | mk l=>cases l <;> simp [ByteArray.size]
theorem bad_eq (n:Nat) (h:1≤n∧n≤9) (who key new typ at_:Int) (stays:Bool) (data want:ByteArray) :
  badParts ⟨n,who,key,new,typ,at_,stays,data,want⟩=((bif hasB n 116 then !typeMay typ else (typeMay typ || decide (typ≠0))) || (!hasB n 115 && stays) || (!hasB n 100 && decide (data.size≠0)) || (!hasB n 119 && decide (want.size≠0))):=by
 have ht:typeMay typ=true→typ≠0:=by intro h e; subst e; simp [typeMay] at h
 obtain ⟨-,-,-,e1,e2,e3,e4⟩:=hasB_tab n h
 rw [e1,e2,e3,e4]
 unfold badParts
 simp only [decide_not,Bool.not_not]
 by_cases hk:(n:Int)=3∨(n:Int)=4∨(n:Int)=6
 ·simp [hk]
 ·cases hm:typeMay typ
  ·simp [hk]
  ·have:=ht hm
   simp [hk,this]
set_option maxRecDepth 100000 in
set_option maxHeartbeats 4000000 in
theorem ccheck_any (c:Cmd) (w:World) (hs:c.data.size≤9223372036854775807∧c.want.size≤9223372036854775807) :
  Calls Tryz.prog 21 #[cmdV c] w (CkPost c w):=by
 obtain ⟨op,who,key,new,typ,at_,stays,data,want⟩:=c
 by_cases h0:op<1∨9<op
 ·have HF:=Lib.hid (show cmdFault ⟨op,who,key,new,typ,at_,stays,data,want⟩=2 from if_pos h0)
  by_cases h1:op<1
  ·go_enter Tryz.func21,Tryz.ntmps21
   go_wp2
   go_ret
   exact CkPost.err HF.out (by omega) (bal w _)
  ·have h2:9<op:=by omega
   go_enter Tryz.func21,Tryz.ntmps21
   go_wp2
   go_ret
   exact CkPost.err HF.out (by omega) (bal w _)
 have HF0:=Lib.hid (show cmdFault ⟨op,who,key,new,typ,at_,stays,data,want⟩=(if who<1∨4<who then 1 else cfK ⟨op,who,key,new,typ,at_,stays,data,want⟩) from if_neg h0)
 obtain ⟨n,rfl⟩:=Int.eq_ofNat_of_zero_le (show 0≤op by omega)
 have hn:1≤n∧n≤9:=by omega
 have hn1:¬ (n:Int)<1:=by omega
 have hn9:¬ 9<(n:Int):=by omega
 have HH:=Lib.hid (hasB_tab n hn)
 clear h0
 by_cases hw:who<1∨4<who
 ·have HF:=Lib.hid (HF0.out.trans (if_pos hw))
  by_cases h1:who<1
  ·go_enter Tryz.func21,Tryz.ntmps21
   go_wp2
   go_ret
   exact CkPost.err HF.out (by omega) (bal w _)
  ·have h2:4<who:=by omega
   go_enter Tryz.func21,Tryz.ntmps21
   go_wp2
   go_ret
   exact CkPost.err HF.out (by omega) (bal w _)
 have hw1:¬ who<1:=by omega
 have hw4:¬ 4<who:=by omega
 have HF1:=Lib.hid (HF0.out.trans (if_neg hw))
 clear HF0 hw
 go_enter Tryz.func21,Tryz.ntmps21
 go_wp2
 go_loopw [36] (fun i wr=>∃ k:Nat,k≤3∧i=.int .i64 k∧cmdFault ⟨n,who,key,new,typ,at_,stays,data,want⟩=restF ⟨n,who,key,new,typ,at_,stays,data,want⟩ k∧Below (w.heap.size+2) ((w.alloc (.cells (cmdC ⟨n,who,key,new,typ,at_,stays,data,want⟩) 37)).alloc (.cells (tabC ⟨n,who,key,new,typ,at_,stays,data,want⟩) 96)) wr) (fun i _=>(3 - intOf i).toNat)
 case atStart=>exact ⟨0,by omega,rfl,HF1.out,Below.refl _ _⟩
 case round =>
  obtain ⟨k,hk,rfl,hF,hb⟩:=hrel
  have HF:=Lib.hid hF
  have HB:=Lib.hid hb
  have hz:w.heap.size+2≤wr.heap.size:=by have:=hb.size; simp at this; omega
  have hz0:w.heap.size<wr.heap.size:=by omega
  have hz1:w.heap.size+1<wr.heap.size:=by omega
  have HC:=Lib.hid ((hb.block w.heap.size (by omega)).trans (heap_alloc2_old w _ _))
  have HT:=Lib.hid ((hb.block (w.heap.size+1) (by omega)).trans (heap_alloc2_new w _ _))
  have HBW:=Lib.hid (show Below w.heap.size w wr from ((bal w _).alloc (by simp) _).trans (hb.mono (by omega)))
  clear hF hb
  obtain ⟨c0,c1,c2,c3,c4,c5,c6,c7,c8⟩:=box9 HC.out
  obtain ⟨t0,t1,t2,t3,t4,t5,t6,t7,t8⟩:=tab9 HT.out
  rcases (by omega:k=0∨k=1∨k=2∨k=3) with rfl | rfl | rfl | rfl
  ·obtain ⟨b,hb⟩:∃ b,hasB n 107=b:=⟨_,rfl⟩
   have HQ:=Lib.hid (show cmdFault ⟨n,who,key,new,typ,at_,stays,data,want⟩=stage b key 999 (restF ⟨n,who,key,new,typ,at_,stays,data,want⟩ 1) from HF.out.trans (by rw [← hb,HH.out.1]; rfl))
   have HB2:=Lib.hid hb
   clear hb
   go_wp2_with fail
   refine (has_x n hn 107 107 (by decide) b HB2.out _).mono ?_
   rintro e w5 ⟨rfl,b5⟩
   have B5:=Lib.hid (show Below (w.heap.size+2) ((w.alloc (.cells (cmdC ⟨n,who,key,new,typ,at_,stays,data,want⟩) 37)).alloc (.cells (tabC ⟨n,who,key,new,typ,at_,stays,data,want⟩) 96)) w5 from HB.out.trans (((bal wr _).trans (b5.mono (bal wr _).size)).mono (by omega)))
   have BW5:=Lib.hid (HBW.out.trans (((bal wr _).trans (b5.mono (bal wr _).size)).mono HBW.out.size))
   have H3:=Lib.hid ((b5.block wr.heap.size (by simp)).trans (heap_alloc_new wr _))
   clear b5 c0 c1 c2 c3 c4 c5 c6 c7 c8 t0 t1 t2 t3 t4 t5 t6 t7 t8
   have r1:w5.cell? ⟨wr.heap.size,1,none⟩=some (.int .i64 key):=by simp [World.cell?,H3.out]
   have r2:w5.cell? ⟨wr.heap.size,2,none⟩=some (.int .i64 999):=by simp [World.cell?,H3.out]
   cases b
   ·by_cases hx:key=0
    ·have HN:=Lib.hid (HQ.out.trans (stage_on (fun h=>h.2 hx) (by omega)))
     have e1:(key != 0)=false:=by simp [hx]
     have e2:¬ key<0:=by omega
     have e3:¬ 999<key:=by omega
     clear hx
     go_wp2
     go_roundw
     case rel=>exact ⟨1,by omega,by go_num,HN.out,B5.out⟩
     case measure=>simp [intOf]
    ·have HN:=Lib.hid (HQ.out.trans (stage_two rfl hx))
     have e1:(key != 0)=true:=by simp [hx]
     clear hx
     go_wp2
     go_ret
     exact CkPost.err HN.out (by omega) BW5.out
   ·by_cases hx:key<0∨999<key
    ·have HN:=Lib.hid (HQ.out.trans (stage_one (fun h=>by cases h.1) hx))
     by_cases e2:key<0
     ·clear hx
      go_wp2
      go_ret
      exact CkPost.err HN.out (by omega) BW5.out
     ·have e3:999<key:=by omega
      clear hx
      go_wp2
      go_ret
      exact CkPost.err HN.out (by omega) BW5.out
    ·have HN:=Lib.hid (HQ.out.trans (stage_on (fun h=>by cases h.1) hx))
     have e2:¬ key<0:=by omega
     have e3:¬ 999<key:=by omega
     clear hx
     go_wp2
     go_roundw
     case rel=>exact ⟨1,by omega,by go_num,HN.out,B5.out⟩
     case measure=>simp [intOf]
  ·obtain ⟨b,hb⟩:∃ b,hasB n 110=b:=⟨_,rfl⟩
   have HQ:=Lib.hid (show cmdFault ⟨n,who,key,new,typ,at_,stays,data,want⟩=stage b new 999 (restF ⟨n,who,key,new,typ,at_,stays,data,want⟩ 2) from HF.out.trans (by rw [← hb,HH.out.2.1]; rfl))
   have HB2:=Lib.hid hb
   clear hb
   go_wp2_with fail
   refine (has_x n hn 110 110 (by decide) b HB2.out _).mono ?_
   rintro e w5 ⟨rfl,b5⟩
   have B5:=Lib.hid (show Below (w.heap.size+2) ((w.alloc (.cells (cmdC ⟨n,who,key,new,typ,at_,stays,data,want⟩) 37)).alloc (.cells (tabC ⟨n,who,key,new,typ,at_,stays,data,want⟩) 96)) w5 from HB.out.trans (((bal wr _).trans (b5.mono (bal wr _).size)).mono (by omega)))
   have BW5:=Lib.hid (HBW.out.trans (((bal wr _).trans (b5.mono (bal wr _).size)).mono HBW.out.size))
   have H3:=Lib.hid ((b5.block wr.heap.size (by simp)).trans (heap_alloc_new wr _))
   clear b5 c0 c1 c2 c3 c4 c5 c6 c7 c8 t0 t1 t2 t3 t4 t5 t6 t7 t8
   have r1:w5.cell? ⟨wr.heap.size,1,none⟩=some (.int .i64 new):=by simp [World.cell?,H3.out]
   have r2:w5.cell? ⟨wr.heap.size,2,none⟩=some (.int .i64 999):=by simp [World.cell?,H3.out]
   cases b
   ·by_cases hx:new=0
    ·have HN:=Lib.hid (HQ.out.trans (stage_on (fun h=>h.2 hx) (by omega)))
     have e1:(new != 0)=false:=by simp [hx]
     have e2:¬ new<0:=by omega
     have e3:¬ 999<new:=by omega
     clear hx
     go_wp2
     go_roundw
     case rel=>exact ⟨2,by omega,by go_num,HN.out,B5.out⟩
     case measure=>simp [intOf]
    ·have HN:=Lib.hid (HQ.out.trans (stage_two rfl hx))
     have e1:(new != 0)=true:=by simp [hx]
     clear hx
     go_wp2
     go_ret
     exact CkPost.err HN.out (by omega) BW5.out
   ·by_cases hx:new<0∨999<new
    ·have HN:=Lib.hid (HQ.out.trans (stage_one (fun h=>by cases h.1) hx))
     by_cases e2:new<0
     ·clear hx
      go_wp2
      go_ret
      exact CkPost.err HN.out (by omega) BW5.out
     ·have e3:999<new:=by omega
      clear hx
      go_wp2
      go_ret
      exact CkPost.err HN.out (by omega) BW5.out
    ·have HN:=Lib.hid (HQ.out.trans (stage_on (fun h=>by cases h.1) hx))
     have e2:¬ new<0:=by omega
     have e3:¬ 999<new:=by omega
     clear hx
     go_wp2
     go_roundw
     case rel=>exact ⟨2,by omega,by go_num,HN.out,B5.out⟩
     case measure=>simp [intOf]
  ·obtain ⟨b,hb⟩:∃ b,hasB n 97=b:=⟨_,rfl⟩
   have HQ:=Lib.hid (show cmdFault ⟨n,who,key,new,typ,at_,stays,data,want⟩=stage b at_ 7 (restF ⟨n,who,key,new,typ,at_,stays,data,want⟩ 3) from HF.out.trans (by rw [← hb,HH.out.2.2.1]; rfl))
   have HB2:=Lib.hid hb
   clear hb
   go_wp2_with fail
   refine (has_x n hn 97 97 (by decide) b HB2.out _).mono ?_
   rintro e w5 ⟨rfl,b5⟩
   have B5:=Lib.hid (show Below (w.heap.size+2) ((w.alloc (.cells (cmdC ⟨n,who,key,new,typ,at_,stays,data,want⟩) 37)).alloc (.cells (tabC ⟨n,who,key,new,typ,at_,stays,data,want⟩) 96)) w5 from HB.out.trans (((bal wr _).trans (b5.mono (bal wr _).size)).mono (by omega)))
   have BW5:=Lib.hid (HBW.out.trans (((bal wr _).trans (b5.mono (bal wr _).size)).mono HBW.out.size))
   have H3:=Lib.hid ((b5.block wr.heap.size (by simp)).trans (heap_alloc_new wr _))
   clear b5 c0 c1 c2 c3 c4 c5 c6 c7 c8 t0 t1 t2 t3 t4 t5 t6 t7 t8
   have r1:w5.cell? ⟨wr.heap.size,1,none⟩=some (.int .i64 at_):=by simp [World.cell?,H3.out]
   have r2:w5.cell? ⟨wr.heap.size,2,none⟩=some (.int .i64 7):=by simp [World.cell?,H3.out]
   cases b
   ·by_cases hx:at_=0
    ·have HN:=Lib.hid (HQ.out.trans (stage_on (fun h=>h.2 hx) (by omega)))
     have e1:(at_ != 0)=false:=by simp [hx]
     have e2:¬ at_<0:=by omega
     have e3:¬ 7<at_:=by omega
     clear hx
     go_wp2
     go_roundw
     case rel=>exact ⟨3,by omega,by go_num,HN.out,B5.out⟩
     case measure=>simp [intOf]
    ·have HN:=Lib.hid (HQ.out.trans (stage_two rfl hx))
     have e1:(at_ != 0)=true:=by simp [hx]
     clear hx
     go_wp2
     go_ret
     exact CkPost.err HN.out (by omega) BW5.out
   ·by_cases hx:at_<0∨7<at_
    ·have HN:=Lib.hid (HQ.out.trans (stage_one (fun h=>by cases h.1) hx))
     by_cases e2:at_<0
     ·clear hx
      go_wp2
      go_ret
      exact CkPost.err HN.out (by omega) BW5.out
     ·have e3:7<at_:=by omega
      clear hx
      go_wp2
      go_ret
      exact CkPost.err HN.out (by omega) BW5.out
    ·have HN:=Lib.hid (HQ.out.trans (stage_on (fun h=>by cases h.1) hx))
     have e2:¬ at_<0:=by omega
     have e3:¬ 7<at_:=by omega
     clear hx
     go_wp2
     go_roundw
     case rel=>exact ⟨3,by omega,by go_num,HN.out,B5.out⟩
     case measure=>simp [intOf]
  ·have hzz:wr.heap.size≤wr.heap.size:=Nat.le_refl _
   have HX:=Lib.hid (bad_eq n hn who key new typ at_ stays data want)
   have HF3:=Lib.hid (show cmdFault ⟨n,who,key,new,typ,at_,stays,data,want⟩=cfP ⟨n,who,key,new,typ,at_,stays,data,want⟩ from HF.out)
   clear t0 t1 t2 t3 t4 t5 t6 t7 t8
   obtain ⟨X,hX⟩:∃ X,(bif hasB n 116 then !typeMay typ else (typeMay typ || decide (typ≠0)))=X:=⟨_,rfl⟩
   have HX1:=Lib.hid hX
   clear hX
   obtain ⟨BP,hBP⟩:∃ x,badParts ⟨n,who,key,new,typ,at_,stays,data,want⟩=x:=⟨_,rfl⟩
   have HBP:=Lib.hid hBP
   clear hBP
   go_upto_block 2 with fail
   go_step
   go_step
   go_cut [64] (fun v wx=>v=.bool BP∧Below wr.heap.size wr wx)
   case first =>
    go_upto_region 13 with fail
    go_cut [64] (fun v wx=>v=.bool X∧Below wr.heap.size wr wx)
    case first =>
     have hq:=bregrown (Below.refl wr.heap.size wr)
     obtain ⟨b,hb⟩:∃ b,hasB n 116=b:=⟨_,rfl⟩
     obtain ⟨m,hm⟩:∃ m,typeMay typ=m:=⟨_,rfl⟩
     have HX2:=Lib.hid (show (bif b then !m else (m || decide (typ≠0)))=X from by rw [← hb,← hm]; exact HX1.out)
     have HBX:=Lib.hid hb
     have HMX:=Lib.hid hm
     clear hb hm
     cases b <;> cases m
     ·by_cases ht:typ=0
      ·have e1:(typ != 0)=false:=by simp [ht]
       have HX3:=Lib.hid (show false=X from by rw [← HX2.out]; simp [ht])
       clear ht
       refine wp_region_quiet_below (by kernel_rfl) (by kernel_rfl) ?_
       repeat (go_big_quiet_step (first | exact Calls.regrown_of (has_x n hn 116 116 (by decide) _ HBX.out _) | exact Calls.regrown_of (type_x typ _ HMX.out _)))
       refine wpQuiet_nil ?_
       rintro w' ⟨⟨dq,osq⟩,rfl⟩
       go_wp2_with fail
       go_meet
       exact ⟨by rw [← HX3.out],below_regrown _ dq osq⟩
      ·have e1:(typ != 0)=true:=by simp [ht]
       have HX3:=Lib.hid (show true=X from by rw [← HX2.out]; simp [ht])
       clear ht
       refine wp_region_quiet_below (by kernel_rfl) (by kernel_rfl) ?_
       repeat (go_big_quiet_step (first | exact Calls.regrown_of (has_x n hn 116 116 (by decide) _ HBX.out _) | exact Calls.regrown_of (type_x typ _ HMX.out _)))
       refine wpQuiet_nil ?_
       rintro w' ⟨⟨dq,osq⟩,rfl⟩
       go_wp2_with fail
       go_meet
       exact ⟨by rw [← HX3.out],below_regrown _ dq osq⟩
     ·have HX3:=Lib.hid (show true=X from by rw [← HX2.out]; simp)
      refine wp_region_quiet_below (by kernel_rfl) (by kernel_rfl) ?_
      repeat (go_big_quiet_step (first | exact Calls.regrown_of (has_x n hn 116 116 (by decide) _ HBX.out _) | exact Calls.regrown_of (type_x typ _ HMX.out _)))
      refine wpQuiet_nil ?_
      rintro w' ⟨⟨dq,osq⟩,rfl⟩
      go_wp2_with fail
      go_meet
      exact ⟨by rw [← HX3.out],below_regrown _ dq osq⟩
     ·have HX3:=Lib.hid (show true=X from by rw [← HX2.out]; simp)
      refine wp_region_quiet_below (by kernel_rfl) (by kernel_rfl) ?_
      repeat (go_big_quiet_step (first | exact Calls.regrown_of (has_x n hn 116 116 (by decide) _ HBX.out _) | exact Calls.regrown_of (type_x typ _ HMX.out _)))
      refine wpQuiet_nil ?_
      rintro w' ⟨⟨dq,osq⟩,rfl⟩
      go_wp2_with fail
      go_meet
      exact ⟨by rw [← HX3.out],below_regrown _ dq osq⟩
     ·have HX3:=Lib.hid (show false=X from by rw [← HX2.out]; simp)
      refine wp_region_quiet_below (by kernel_rfl) (by kernel_rfl) ?_
      repeat (go_big_quiet_step (first | exact Calls.regrown_of (has_x n hn 116 116 (by decide) _ HBX.out _) | exact Calls.regrown_of (type_x typ _ HMX.out _)))
      refine wpQuiet_nil ?_
      rintro w' ⟨⟨dq,osq⟩,rfl⟩
      go_wp2_with fail
      go_meet
      exact ⟨by rw [← HX3.out],below_regrown _ dq osq⟩
    case rest =>
     obtain ⟨rfl,b6⟩:=hcut
     have BW6:=Lib.hid b6
     have HC6:=Lib.hid ((b6.block w.heap.size hz0).trans HC.out)
     have hz6:w.heap.size<wc.heap.size:=Nat.lt_of_lt_of_le hz0 b6.size
     have HX4:=Lib.hid (show badParts ⟨n,who,key,new,typ,at_,stays,data,want⟩=(X || (!hasB n 115 && stays) || (!hasB n 100 && decide (data.size≠0)) || (!hasB n 119 && decide (want.size≠0))) from by rw [HX.out,HX1.out])
     clear b6 c0 c1 c2 c3 c4 c5 c6 c7 c8 HX HX1
     obtain ⟨c0,c1,c2,c3,c4,c5,c6,c7,c8⟩:=box9 HC6.out
     cases X
     ·obtain ⟨x2,hx2⟩:∃ x,(!hasB n 115 && stays)=x:=⟨_,rfl⟩
      rw [hx2] at HX4
      have HYx2:=Lib.hid hx2
      clear hx2
      obtain ⟨wox2,rfl⟩:∃ wo:World,wo=wc:=⟨_,rfl⟩
      go_upto_region 14 with fail
      go_cut [64] (fun v wx=>v=.bool x2∧Below wox2.heap.size wox2 wx)
      case first =>
       obtain ⟨b,hb⟩:∃ b,hasB n 115=b:=⟨_,rfl⟩
       rw [hb] at HYx2
       have HB5:=Lib.hid hb
       clear hb
       go_wp2_with fail
       refine (has_x n hn 115 115 (by decide) b HB5.out _).mono ?_
       rintro e w7 ⟨rfl,b7⟩
       obtain ⟨d0,d1,d2,d3,d4,d5,d6,d7,d8⟩:=box9 ((b7.block w.heap.size hz6).trans HC6.out)
       have B7:=Lib.hid b7
       clear b7
       cases b
       ·have HY3:=Lib.hid (show stays=x2 from HYx2.out)
        go_wp2_with fail
        go_meet
        exact ⟨by rw [HY3.out],B7.out⟩
       ·have HY3:=Lib.hid (show false=x2 from HYx2.out)
        go_wp2_with fail
        go_meet
        exact ⟨by rw [HY3.out],B7.out⟩
      case rest =>
       obtain ⟨rfl,b7⟩:=hcut
       have BWx2:=Lib.hid (BW6.out.trans (b7.mono BW6.out.size))
       have HCx2:=Lib.hid ((b7.block w.heap.size hz6).trans HC6.out)
       have hzx2:w.heap.size<wc.heap.size:=Nat.lt_of_lt_of_le hz6 b7.size
       clear b7 c0 c1 c2 c3 c4 c5 c6 c7 c8
       obtain ⟨c0,c1,c2,c3,c4,c5,c6,c7,c8⟩:=box9 HCx2.out
       cases x2
       ·obtain ⟨x3,hx3⟩:∃ x,(!hasB n 100 && decide (data.size≠0))=x:=⟨_,rfl⟩
        rw [hx3] at HX4
        have HYx3:=Lib.hid hx3
        clear hx3
        obtain ⟨wox3,rfl⟩:∃ wo:World,wo=wc:=⟨_,rfl⟩
        go_upto_region 15 with fail
        go_cut [64] (fun v wx=>v=.bool x3∧Below wox3.heap.size wox3 wx)
        case first =>
         obtain ⟨b,hb⟩:∃ b,hasB n 100=b:=⟨_,rfl⟩
         rw [hb] at HYx3
         have HB5:=Lib.hid hb
         clear hb
         go_wp2_with fail
         refine (has_x n hn 100 100 (by decide) b HB5.out _).mono ?_
         rintro e w7 ⟨rfl,b7⟩
         obtain ⟨d0,d1,d2,d3,d4,d5,d6,d7,d8⟩:=box9 ((b7.block w.heap.size hzx2).trans HCx2.out)
         have B7:=Lib.hid b7
         clear b7
         cases b
         ·have HY3:=Lib.hid (show decide (data.size≠0)=x3 from HYx3.out)
          go_wp2_with fail
          go_meet
          exact ⟨by rw [← HY3.out,isEmpty_size],B7.out⟩
         ·have HY3:=Lib.hid (show false=x3 from HYx3.out)
          go_wp2_with fail
          go_meet
          exact ⟨by rw [HY3.out],B7.out⟩
        case rest =>
         obtain ⟨rfl,b7⟩:=hcut
         have BWx3:=Lib.hid (BWx2.out.trans (b7.mono BWx2.out.size))
         have HCx3:=Lib.hid ((b7.block w.heap.size hzx2).trans HCx2.out)
         have hzx3:w.heap.size<wc.heap.size:=Nat.lt_of_lt_of_le hzx2 b7.size
         clear b7 c0 c1 c2 c3 c4 c5 c6 c7 c8
         obtain ⟨c0,c1,c2,c3,c4,c5,c6,c7,c8⟩:=box9 HCx3.out
         cases x3
         ·obtain ⟨b,hb⟩:∃ b,hasB n 119=b:=⟨_,rfl⟩
          rw [hb] at HX4
          have HB5:=Lib.hid hb
          clear hb
          go_wp2_with fail
          refine (has_x n hn 119 119 (by decide) b HB5.out _).mono ?_
          rintro e w7 ⟨rfl,b7⟩
          obtain ⟨d0,d1,d2,d3,d4,d5,d6,d7,d8⟩:=box9 ((b7.block w.heap.size hzx3).trans HCx3.out)
          have B7:=Lib.hid (BWx3.out.trans (b7.mono BWx3.out.size))
          clear b7
          cases b
          ·have HY3:=Lib.hid (show decide (want.size≠0)=BP from by rw [← HBP.out,HX4.out]; simp)
           go_wp2_with fail
           go_meet
           exact ⟨by rw [← HY3.out,isEmpty_size],B7.out⟩
          ·have HY3:=Lib.hid (show false=BP from by rw [← HBP.out,HX4.out]; simp)
           go_wp2_with fail
           go_meet
           exact ⟨by rw [HY3.out],B7.out⟩
         ·have HE:=Lib.hid (show true=BP from by rw [← HBP.out,HX4.out]; simp)
          go_wp2_with fail
          go_meet
          exact ⟨by rw [← HE.out],BWx3.out⟩
       ·have HE:=Lib.hid (show true=BP from by rw [← HBP.out,HX4.out]; simp)
        go_wp2_with fail
        go_meet
        exact ⟨by rw [← HE.out],BWx2.out⟩
     ·have HE:=Lib.hid (show true=BP from by rw [← HBP.out,HX4.out]; simp)
      go_wp2_with fail
      go_meet
      exact ⟨by rw [← HE.out],BW6.out⟩
   case rest =>
    obtain ⟨wo,rfl⟩:∃ wo:World,wo=wc:=⟨_,rfl⟩
    obtain ⟨rfl,b6⟩:=hcut
    have BW6:=Lib.hid (HBW.out.trans (b6.mono HBW.out.size))
    have HC6:=Lib.hid ((b6.block w.heap.size hz0).trans HC.out)
    have hz6:w.heap.size<wo.heap.size:=Nat.lt_of_lt_of_le hz0 b6.size
    clear b6 c0 c1 c2 c3 c4 c5 c6 c7 c8 HX HX1
    obtain ⟨c0,c1,c2,c3,c4,c5,c6,c7,c8⟩:=box9 HC6.out
    cases BP
    ·have HP1:=Lib.hid (HF3.out.trans (if_neg (by rw [HBP.out]; simp)))
     by_cases hd:8<data.size∨8<want.size
     ·have HE:=Lib.hid (HP1.out.trans (if_pos hd))
      by_cases h1:(8:Int)<data.size
      ·go_wp2
       go_ret
       exact CkPost.err HE.out (by omega) BW6.out
      ·have h2:(8:Int)<want.size:=by omega
       go_wp2
       go_ret
       exact CkPost.err HE.out (by omega) BW6.out
     ·have HE:=Lib.hid (HP1.out.trans (if_neg hd))
      have h1:¬ (8:Int)<data.size:=by omega
      have h2:¬ (8:Int)<want.size:=by omega
      clear HP1
      have HW1:=Lib.hid (fun (wz:World) (hb:Below wo.heap.size wo wz)=>BW6.out.trans (hb.mono BW6.out.size))
      go_wp2
      go_loopw [128] (fun i wr=>∃ k:Nat,k≤2∧i=.int .i64 k∧((0<k→smallB data=true)∧(1<k→smallB want=true))∧Below (wo.alloc (.cells #[.string data,.string want] 9)).heap.size (wo.alloc (.cells #[.string data,.string want] 9)) wr) (fun i _=>(2 - intOf i).toNat)
      case atStart=>exact ⟨0,by omega,rfl,⟨fun h=>by omega,fun h=>by omega⟩,Below.refl _ _⟩
      case round =>
       obtain ⟨k,hk,rfl,hS,hb⟩:=hrel
       have HS:=Lib.hid hS
       have HB7:=Lib.hid hb
       have HT7:=Lib.hid ((hb.block wo.heap.size (by simp)).trans (heap_alloc_new wo _))
       have HW7:=Lib.hid (HW1.out _ ((bal wo _).trans (hb.mono (bal wo _).size)))
       clear hS hb c0 c1 c2 c3 c4 c5 c6 c7 c8 h1 h2
       have s0:wr.cell? ⟨wo.heap.size,0,none⟩=some (.string data):=by simp [World.cell?,HT7.out]
       have s1:wr.cell? ⟨wo.heap.size,1,none⟩=some (.string want):=by simp [World.cell?,HT7.out]
       rcases (by omega:k=0∨k=1∨k=2) with rfl | rfl | rfl
       ·obtain ⟨b,hb⟩:∃ b,smallB data=b:=⟨_,rfl⟩
        have HB5:=Lib.hid hb
        clear hb
        go_wp2_with fail
        refine (containsFunc_any data _).mono ?_
        rintro e w8 ⟨rfl,b8⟩
        rw [HB5.out]
        have HW8:=Lib.hid (HW7.out.trans (b8.mono HW7.out.size))
        have HB8:=Lib.hid (HB7.out.trans (b8.mono HB7.out.size))
        clear b8
        cases b
        ·have HE2:=Lib.hid (HE.out.trans (if_neg (by rw [HB5.out]; simp)))
         go_wp2
         go_ret
         exact CkPost.err HE2.out (by omega) HW8.out
        ·go_wp2
         go_roundw
         case rel=>exact ⟨1,by omega,by go_num,⟨fun _=>HB5.out,fun h=>by omega⟩,HB8.out⟩
         case measure=>simp [intOf]
       ·obtain ⟨b,hb⟩:∃ b,smallB want=b:=⟨_,rfl⟩
        have HB5:=Lib.hid hb
        clear hb
        go_wp2_with fail
        refine (containsFunc_any want _).mono ?_
        rintro e w8 ⟨rfl,b8⟩
        rw [HB5.out]
        have HW8:=Lib.hid (HW7.out.trans (b8.mono HW7.out.size))
        have HB8:=Lib.hid (HB7.out.trans (b8.mono HB7.out.size))
        clear b8
        cases b
        ·have HE2:=Lib.hid (HE.out.trans (if_neg (by rw [HB5.out]; simp)))
         go_wp2
         go_ret
         exact CkPost.err HE2.out (by omega) HW8.out
        ·go_wp2
         go_roundw
         case rel=>exact ⟨2,by omega,by go_num,⟨fun _=>HS.out.1 (by omega),fun _=>HB5.out⟩,HB8.out⟩
         case measure=>simp [intOf]
       ·have HE2:=Lib.hid (HE.out.trans (if_pos ⟨HS.out.1 (by omega),HS.out.2 (by omega)⟩))
        go_wp2
        go_ret
        exact CkPost.ok HE2.out HW7.out
    ·have HE:=Lib.hid (HF3.out.trans (if_pos HBP.out))
     go_wp2
     go_ret
     exact CkPost.err HE.out (by omega) BW6.out
end Go.Proofs.YtajegiifabfcjaaGreatDoor
namespace Go.Proofs.YtajegiifabfcjaaGreatDoor
open Go.RowKit
theorem ints_cells {B:Nat} {w:World} {b o:Nat} {l:List Int} (h:Ints B w (some ⟨b,o,none⟩) l):∀ j u,(l.map (Value.int .i64))[j]?=some u→w.cell? ((⟨b,o,none⟩:Addr).add j)=some u:=by
 intro j u hj
 have hjl:j<l.length:=by
  have:=(List.getElem?_eq_some_iff.1 hj).1
  simpa using this
 obtain ⟨b',o',e,hb,c1⟩:=h j hjl
 obtain ⟨rfl,rfl⟩:b=b'∧o=o':=by simpa using e
 have hadd:(⟨b,o,none⟩:Addr).add j=⟨b,o+j,none⟩:=by unfold Addr.add; split <;> simp_all
 rw [hadd,c1,← hj]
 simp [hjl]
theorem ints_one (l:List Int):∀ u∈l.map (Value.int .i64),u.oneCell'=true:=by
 intro u hu
 simp only [List.mem_map] at hu
 obtain ⟨r,_,h⟩:=hu
 subst h; rfl
theorem clone_int (l:List Int) (a:Option Addr) (cap:Nat) (w:World) (hl:l.length*8≤140737488355328) (hr:Ints w.heap.size w a l) :
  Calls Tryz.prog 93 #[.slice a l.length cap] w fun e w'=>∃ v,e=.returned v∧OwnI w.heap.size w' v l∧Below w.heap.size w w':=by
 have hq:=fun w=>Lib.run_eql_slice_nil (P:=Tryz.prog) w 65 3 a l.length cap 0 0 Tryz.underlying65
 obtain ⟨i0,hi,hz0,hz1,hz2⟩:=info_parts Tryz.infoInt
 cases a with
 | none =>
  have hz:l=[]:=by
   cases l with
   | nil=>rfl
   | cons r l=>obtain ⟨b,o,e,_⟩:=hr 0 (by simp); cases e
  subst hz
  simp only [List.length_nil,Option.isNone_none] at hq ⊢
  clear hi hz0 hz1 hz2 hr hl
  go_enter Tryz.func93,Tryz.ntmps93
  go_wp2
  go_ret
  exact ⟨_,rfl,⟨rfl,.inl ⟨rfl,rfl⟩⟩,Below.refl _ _⟩
 | some ad =>
  have hcase:l=[]∨∃ b o,ad=⟨b,o,none⟩∧b<w.heap.size:=by
   cases l with
   | nil=>exact .inl rfl
   | cons r l=>obtain ⟨b,o,e,hb,_⟩:=hr 0 (by simp); exact .inr ⟨b,o,by simpa using e,hb⟩
  have hnews:∀ j u,(l.map (Value.int .i64))[j]?=some u→(w.alloc (.cells #[] 3)).cell? (ad.add j)=some u:=by
   rcases hcase with rfl | ⟨b,o,rfl,hb⟩
   ·intro j u h; simp at h
   ·exact ints_cells (hr.below (bal w _) (Nat.le_refl _))
  have hown:(w.alloc (.cells #[] 3)).ownsRow w.heap.size 3 1 (.slice (some ⟨w.heap.size,0,none⟩) 0 0) 0 [] :=
   ⟨rfl,.inr ⟨w.heap.size,0,#[],rfl,Nat.le_refl _,heap_alloc_new _ _,Nat.le_refl _,by simp [maxLen],rfl,rfl⟩⟩
  go_enter Tryz.func93,Tryz.ntmps93
  go_wp2_with (at_builtin; refine wpList_append_own _ rfl _ _ 65 rfl w.heap.size 3 i0 (.int .i64 0) 1 8 Tryz.underlying65 hi hz0 hz1 hz2 rfl (by decide) _ _ _ rfl hown ad l.length cap (l.map (Value.int .i64)) rfl (by simp) hnews (ints_one l) ?c3 ?c4 ?c5 ?_)
  case c3=>unfold maxLen; omega
  case c4=>omega
  case c5=>simp
  intro v' w1 hown1 hg1 _
  go_wp2
  go_ret
  refine ⟨_,rfl,?_,?_⟩
  ·simpa [OwnI] using hown1
  ·exact (bal w _).grown hg1 (by simp) (fun k hk=>by simp [Value.ownBlock] at hk; omega)
theorem OwnI.cap {B:Nat} {w:World} {a:Option Addr} {l:List Int} {n c:Nat} (h:OwnI B w (.slice a n c) l):l.length≤c:=by
 obtain ⟨h1,h2⟩:=h
 rcases h2 with ⟨e,hn⟩ | ⟨g,cap,cur,e,hg,hh,hc,hm,hs,ht⟩
 ·omega
 ·cases e; exact hc
structure Sl where
 a:Option Addr
 l:List Int
 c:Nat
abbrev Sl.v (s:Sl):Value:=.slice s.a s.l.length s.c
structure Sl.ok (s:Sl) (w:World):Prop where
 ints:Ints w.heap.size w s.a s.l
 len:s.l.length≤5
 cap:s.l.length≤s.c
theorem Sl.ok.below {s:Sl} {w w':World} (h:s.ok w) (hb:Below w.heap.size w w'):s.ok w' :=
 ⟨(h.ints.below hb (Nat.le_refl _)).mono hb.size,h.len,h.cap⟩
structure Bx where
 s1:Sl
 s2:Sl
 s3:Sl
 s4:Sl
abbrev Bx.cells (b:Bx):Array Value:=#[b.s1.v,b.s2.v,b.s3.v,b.s4.v]
def Bx.get (b:Bx) (k:Int):Sl:=if k=1 then b.s1 else if k=2 then b.s2 else if k=3 then b.s3 else b.s4
def Bx.set (b:Bx) (k:Int) (s:Sl):Bx:=if k=1 then { b with s1:=s } else if k=2 then { b with s2:=s } else if k=3 then { b with s3:=s } else { b with s4:=s }
structure Bx.ok (b:Bx) (w:World):Prop where
 o1:b.s1.ok w
 o2:b.s2.ok w
 o3:b.s3.ok w
 o4:b.s4.ok w
theorem Bx.ok.below {b:Bx} {w w':World} (h:b.ok w) (hb:Below w.heap.size w w'):b.ok w':=⟨h.o1.below hb,h.o2.below hb,h.o3.below hb,h.o4.below hb⟩
def addL (l:List Int) (x:Int):List Int:=if l.getLast?=some x then l else (l ++ [x]).drop (l.length+1 - 5)
theorem addL_len (l:List Int) (x:Int) (h:l.length≤5):(addL l x).length≤5:=by
 unfold addL; split
 ·exact h
 ·simp; omega
theorem addL_last (l:List Int) (x:Int) (n:Nat) (hn:l.length=n+1) (h:l[n]=x):addL l x=l:=by
 unfold addL; rw [if_pos]
 rw [List.getLast?_eq_getElem?,hn,Nat.add_sub_cancel,List.getElem?_eq_getElem (by omega),h]
theorem addL_new (l:List Int) (x:Int) (n:Nat) (hn:l.length=n+1) (h:l[n]≠x):addL l x=(l ++ [x]).drop (l.length+1 - 5):=by
 unfold addL; rw [if_neg]
 rw [List.getLast?_eq_getElem?,hn,Nat.add_sub_cancel,List.getElem?_eq_getElem (by omega)]
 simpa using h
end Go.Proofs.YtajegiifabfcjaaGreatDoor
