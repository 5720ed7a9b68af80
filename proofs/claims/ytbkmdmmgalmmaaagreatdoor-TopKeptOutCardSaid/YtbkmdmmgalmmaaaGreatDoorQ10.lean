/-
  Told, SameState, Fault, Small, OrdKit, Worlds, OrdSteps, Cmd
-/
import Derived.Test.YtbkmdmmgalmmaaaGreatDoorQ09
import Derived.Test.YtbkmdmmgalmmaaaGreatDoorQ01
import Derived.Test.YtbkmdmmgalmmaaaGreatDoorQ02
import Derived.Deep.RegionHeld3
import Derived.Deep.DeepCutAuto
import Derived.Deep.CutBlock
namespace Go.Proofs.YtbkmdmmgalmmaaaGreatDoor
open Go.RowKit
def OwnT (B:Nat) (w:World) (v:Value) (l:List (Int × Int)):Prop:=w.ownsRow B 130 2 v l.length (pcells l)
theorem Tryz.infoTell:(Tryz.prog.info? 130).map (fun i=>(i.zero,i.size,i.bytes))=some (some (.agg #[.int .i64 0,.int .i64 0]),2,16):=by kernel_rfl
theorem OwnT.shape {B:Nat} {w:World} {v:Value} {l:List (Int × Int)} (h:OwnT B w v l):∃ a cap,v=.slice a l.length cap∧Pairs w.heap.size w a l:=by
 obtain ⟨h1,h2⟩:=h
 rcases h2 with ⟨rfl,hn⟩ | ⟨g,cap,cur,rfl,hg,hh,hc,hm,hs,ht⟩
 ·have:l=[]:=List.length_eq_zero_iff.1 hn
  subst this
  exact ⟨none,0,rfl,Pairs.nil _ _ _⟩
 ·refine ⟨_,cap,rfl,fun i hi=>?_⟩
  have hlt:g<w.heap.size:=(Array.getElem?_eq_some_iff.1 hh).1
  obtain ⟨p1,p2⟩:=pcells_at l i hi
  have hcell:∀ j,j<l.length*2→w.cell? ⟨g,0+j,none⟩=(pcells l)[j]?:=by
   intro j hj
   rw [← ht,List.getElem?_take_of_lt hj]
   simp [World.cell?,hh]
  exact ⟨g,0,rfl,hlt,(hcell _ (by omega)).trans p1,by rw [show 0+i*2+1=0+(i*2+1) from by omega]; exact (hcell _ (by omega)).trans p2⟩
theorem OwnT.mono {B C:Nat} {w:World} {v:Value} {l:List (Int × Int)} (h:OwnT C w v l) (hB:B≤C):OwnT B w v l:=by
 obtain ⟨h1,h2⟩:=h
 refine ⟨h1,?_⟩
 rcases h2 with h2 | ⟨g,cap,cur,e1,e2,e3⟩
 ·exact .inl h2
 ·exact .inr ⟨g,cap,cur,e1,by omega,e3⟩
theorem OwnT.blk {B:Nat} {w:World} {v:Value} {l:List (Int × Int)} (h:OwnT B w v l):∀ k,v.ownBlock=some k→B≤k:=by
 obtain ⟨_,h2⟩:=h
 rcases h2 with ⟨rfl,_⟩ | ⟨g,cap,cur,rfl,hg,_⟩
 ·intro k hk; cases hk
 ·intro k hk; simp [Value.ownBlock] at hk; omega
theorem OwnT.below {B:Nat} {w w':World} {v:Value} {l:List (Int × Int)} (h:OwnT B w v l) (hb:Below w.heap.size w w'):OwnT B w' v l:=by
 obtain ⟨h1,h2⟩:=h
 refine ⟨h1,?_⟩
 rcases h2 with h2 | ⟨g,cap,cur,e1,e2,e3,e4⟩
 ·exact .inl h2
 ·exact .inr ⟨g,cap,cur,e1,e2,by rw [hb.block g ((Array.getElem?_eq_some_iff.1 e3).1)]; exact e3,e4⟩
theorem told_snoc (l:List Int) (what:Int) (k:Nat) (h:k<l.length):toldL (l.take (k+1)) what=toldL (l.take k) what ++ [(l[k],what)]:=by
 rw [List.take_succ_eq_append_getElem h]; unfold toldL; rw [List.map_append]; rfl
set_option maxHeartbeats 1000000 in
theorem told_any (l:List Int) (a:Option Addr) (cap:Nat) (what:Int) (w:World) (hl:l.length≤100) (hr:Ints w.heap.size w a l) :
  Calls Tryz.prog 90 #[.slice a l.length cap,.int .i64 what] w fun e w'=>∃ v,e=.returned v∧OwnT w.heap.size w' v (toldL l what)∧Below w.heap.size w w':=by
 obtain ⟨i0,hi,hz0,hz1,hz2⟩:=info_parts Tryz.infoTell
 go_enter Tryz.func90,Tryz.ntmps90
 go_wp2
 go_loopw [5,10] (fun v i wr=>∃ k:Nat,k≤l.length∧i=.int .i64 k∧OwnT w.heap.size wr v (toldL (l.take k) what)∧Below w.heap.size w wr) (fun _ i _=>l.length - (intOf i).toNat)
 case atStart=>exact ⟨0,by omega,rfl,⟨rfl,.inl ⟨rfl,rfl⟩⟩,Below.refl _ _⟩
 case round =>
  obtain ⟨k,hk,rfl,hown,hb⟩:=hrel
  have HOWN:=Lib.hid hown
  have HBLK:=Lib.hid hown.blk
  clear hown
  have hs:=hb.size
  have hol:(toldL (l.take k) what).length≤k:=by simp [toldL]; omega
  by_cases hlt:k<l.length
  ·obtain ⟨b,o,rfl,hbs,h1⟩:=hr k hlt
   have c1:=(hb.cell (p:=⟨b,o+k,none⟩) hbs).trans h1
   have HE:=Lib.hid (told_snoc l what k hlt)
   clear hr h1
   go_wp2_with (at_builtin; refine wpList_append_own _ rfl _ _ 123 rfl w.heap.size 130 i0 (.agg #[.int .i64 0,.int .i64 0]) 2 16 Tryz.underlying123 hi hz0 hz1 hz2 rfl (by decide) _ _ _ rfl (HOWN.out.alloc _) ⟨wr.heap.size,0,none⟩ 1 1 [.int .i64 l[k],.int .i64 what] rfl rfl ?c1 ?c2 ?c3 ?c4 ?c5 ?_)
   case c1 =>
    intro j u hj
    match j,hj with
    | 0,hj=>simp at hj; subst hj; simp [Addr.add]
    | 1,hj=>simp at hj; subst hj; simp [Addr.add]
   case c2=>intro u hu; simp at hu; rcases hu with rfl | rfl <;> rfl
   case c3=>unfold maxLen; omega
   case c4=>omega
   case c5=>simp; omega
   intro v' w1 hown1 hg1 _
   have hb1:Below w.heap.size w w1:=(hb.alloc (by omega) _).grown hg1 (by simp; omega) HBLK.out
   have HO1:=Lib.hid hown1
   clear hown1 hg1
   go_wp2
   go_roundw
   case rel=>exact ⟨k+1,by omega,by go_num,by rw [HE.out]; simpa [OwnT,pcells] using HO1.out,hb1⟩
   case measure=>simp [intOf]; omega
  ·go_wp2
   go_ret
   exact ⟨_,rfl,by rw [← List.take_of_length_le (show l.length≤k by omega)]; exact HOWN.out,hb⟩
theorem free_any (g:Int) (l:List (Int × Int)) (t h:Int) (st:Bool) (a:Option Addr) (cap:Nat) (w:World) :
  Calls Tryz.prog 92 #[.agg #[.int .i64 g,.slice a l.length cap,.int .i64 t,.int .i64 h,.bool st]] w fun e w'=>e=.returned (.agg #[.int .i64 g,.slice a l.length cap,.int .i64 0,.int .i64 0,.bool st])∧Below w.heap.size w w':=by
 go_enter Tryz.func92,Tryz.ntmps92
 go_wp2
 exact bodyPost_ret (v:=.agg #[.int .i64 g,.slice a l.length cap,.int .i64 0,.int .i64 0,.bool st]) (by simp [results,Tryz.results92,go_sem]) rfl ⟨rfl,(bal w _).alloc (by simp) _⟩
end Go.Proofs.YtbkmdmmgalmmaaaGreatDoor

namespace Go.Proofs.YtbkmdmmgalmmaaaGreatDoor
open Go.RowKit
set_option maxHeartbeats 1000000 in
set_option maxRecDepth 100000 in
theorem samestate_true (s:St) (a b:Option Addr) (c d:Nat) (w:World) (ha:StR w s a) (hb:StR w s b) :
  Calls Tryz.prog 12 #[stV s a c,stV s b d] w fun e w'=>e=.returned (.bool true)∧Below w.heap.size w w':=by
 obtain ⟨g,l,t,h,st⟩:=s
 obtain ⟨hl,ha⟩:=ha
 obtain ⟨_,hb⟩:=hb
 unfold maxLen at hl
 dsimp only at hl ha hb
 have q1:(g != g)=false:=by simp
 have q2:(t != t)=false:=by simp
 have q3:(h != h)=false:=by simp
 have q4:(st != st)=false:=by simp
 have q5:((l.length:Int) != (l.length:Int))=false:=by simp
 go_enter Tryz.func12,Tryz.ntmps12
 go_wp2
 go_loopw [5] (fun i wr=>∃ k:Nat,k≤l.length∧i=.int .i64 k∧Below (w.heap.size+2) ((w.alloc (.cells #[.int .i64 g,.slice a l.length c,.int .i64 t,.int .i64 h,.bool st] 35)).alloc (.cells #[.int .i64 g,.slice b l.length d,.int .i64 t,.int .i64 h,.bool st] 35)) wr) (fun i _=>l.length - (intOf i).toNat)
 case atStart=>exact ⟨0,by omega,rfl,Below.refl _ _⟩
 case round =>
  obtain ⟨k,hk,rfl,hbw⟩:=hrel
  obtain ⟨⟨e0,e1,e2,e3,e4⟩,f0,f1,f2,f3,f4⟩:=box5 hbw (b:=w.heap.size) (by omega) (heap_alloc2_old w _ _)
  obtain ⟨⟨g0,g1,g2,g3,g4⟩,k0,k1,k2,k3,k4⟩:=box5 hbw (b:=w.heap.size+1) (by omega) (heap_alloc2_new w _ _)
  have b0:Below w.heap.size w wr:=bover (bover hbw (by simp)) (by first | (simp; done) | omega)
  by_cases hlt:k<l.length
  ·obtain ⟨b1,o1,rfl,hs1,h11,h12⟩:=ha k hlt
   obtain ⟨b2,o2,rfl,hs2,h21,h22⟩:=hb k hlt
   have c11:=(b0.cell (p:=⟨b1,o1+k*2,none⟩) hs1).trans h11
   have c12:=(b0.cell (p:=⟨b1,o1+k*2+1,none⟩) hs1).trans h12
   have c21:=(b0.cell (p:=⟨b2,o2+k*2,none⟩) hs2).trans h21
   have c22:=(b0.cell (p:=⟨b2,o2+k*2+1,none⟩) hs2).trans h22
   clear ha hb h11 h12 h21 h22
   go_wp2
   go_quiet (fail)
   go_wp2
   go_roundw
   case rel=>exact ⟨k+1,by omega,by go_num,below_drewN hbw _⟩
   case measure=>simp [intOf]; omega
  ·go_wp2
   go_ret
   exact ⟨rfl,b0⟩
end Go.Proofs.YtbkmdmmgalmmaaaGreatDoor

namespace Go.Proofs.YtbkmdmmgalmmaaaGreatDoor
open Go.RowKit
end Go.Proofs.YtbkmdmmgalmmaaaGreatDoor

namespace Go.Proofs.YtbkmdmmgalmmaaaGreatDoor
open Go.RowKit Go.Sort
end Go.Proofs.YtbkmdmmgalmmaaaGreatDoor

namespace Go.Proofs.YtbkmdmmgalmmaaaGreatDoor
open Go.RowKit Go.Sort
theorem others_x (g:Int) (l:List (Int × Int)) (t h:Int) (st:Bool) (a:Option Addr) (cap:Nat) (who:Int) (w:World) (hr:StR w ⟨g,l,t,h,st⟩ a) (hl:l.length≤100) (O:List Int) (hO:othersL who l=O) :
  Calls Tryz.prog 91 #[.agg #[.int .i64 g,.slice a l.length cap,.int .i64 t,.int .i64 h,.bool st],.int .i64 who] w fun e w'=>∃ a' c',e=.returned (.slice a' O.length c')∧Ints w'.heap.size w' a' O∧Below w.heap.size w w':=by
 subst hO
 refine (others_any ⟨g,l,t,h,st⟩ a cap who w hr hl).mono ?_
 rintro e w' ⟨v,rfl,hown,hb⟩
 obtain ⟨a',c',rfl,hi⟩:=hown.shape
 exact ⟨a',c',rfl,hi,hb⟩
end Go.Proofs.YtbkmdmmgalmmaaaGreatDoor

namespace Go.Proofs.YtbkmdmmgalmmaaaGreatDoor
open Go.RowKit
theorem at_end (w:World) (o:Obj) {n:Nat} (h:n=w.heap.size):(w.alloc o).heap[n]?=some o:=by subst h; exact heap_alloc_new _ _
theorem at_old {w:World} (o:Obj) {n:Nat} {p:Obj} (h:w.heap[n]?=some p):(w.alloc o).heap[n]?=some p:=by
 rw [Below.heap_alloc _ _ _ (Array.getElem?_eq_some_iff.1 h).1]; exact h
end Go.Proofs.YtbkmdmmgalmmaaaGreatDoor

namespace Go.Proofs.YtbkmdmmgalmmaaaGreatDoor
open Go.RowKit Go.Sort
set_option maxRecDepth 100000 in
theorem oknown_any (s:St) (a:Option Addr) (cap:Nat) (c:Cmd) (w:World) (hr:StR w s a) :
  Calls Tryz.prog 86 #[stV s a cap,cmdV c] w fun e w'=>e=.returned (.bool (pknown s c))∧Below w.heap.size w w':=by
 have hq:=fun (o p:Obj)=>bregrown (Below.refl ((w.alloc o).alloc p).heap.size ((w.alloc o).alloc p))
 have hqr:∀ o p d os,StR (Sort.grow (redrawn ((w.alloc o).alloc p) d) os) s a:=fun o p d os=>(hr.below ((bal w o).alloc (by simp) p)).below (below_regrown _ d os)
 have PK:=Lib.hid (show pknown s c=(decide (0<c.key) && decide (keyOf s.regs c.who=c.key)) from rfl)
 by_cases hk:0<c.key
 ·have hkb:decide (0<c.key)=true:=by simpa using hk
  go_enter Tryz.func86,Tryz.ntmps86
  go_wp2
  refine wp_region_quiet_below (by kernel_rfl) (by kernel_rfl) ?_
  repeat (go_big_quiet_step (exact Calls.regrown_of (key_any s a cap c.who _ (hqr _ _ _ _))))
  refine wpQuiet_nil ?_
  rintro w' ⟨⟨dq,osq⟩,rfl⟩
  go_wp2
  go_ret
  exact ⟨ret_bool (by rw [PK.out,hkb,Bool.true_and]; rfl),((bal w _).alloc (by simp) _).trans ((below_regrown _ dq osq).mono (by simp; omega))⟩
 ·have hkb:decide (0<c.key)=false:=by simpa using hk
  go_enter Tryz.func86,Tryz.ntmps86
  go_wp2
  refine wp_region_quiet_below (by kernel_rfl) (by kernel_rfl) ?_
  repeat (go_big_quiet_step (exact Calls.regrown_of (key_any s a cap c.who _ (hqr _ _ _ _))))
  refine wpQuiet_nil ?_
  rintro w' ⟨⟨dq,osq⟩,rfl⟩
  go_wp2
  go_ret
  exact ⟨ret_bool (by rw [PK.out,hkb]; rfl),((bal w _).alloc (by simp) _).trans ((below_regrown _ dq osq).mono (by simp; omega))⟩
theorem bal3' (w:World) (o p q:Obj):Below w.heap.size w (((w.alloc o).alloc p).alloc q):=((bal w o).alloc (by simp) p).alloc (by simp; omega) q
abbrev stT (s:St) (a:Option Addr) (cap:Nat) (t h:Int):Value:=.agg #[.int .i64 s.gen,.slice a s.regs.length cap,.int .i64 t,.int .i64 h,.bool s.stays]
def ResPost (s:St) (a:Option Addr) (cap:Nat) (c:Cmd) (w:World) (e:Ending) (w':World):Prop :=
 e=.returned (.tuple #[stT s a cap (preserve s c).1.typ (preserve s c).1.holder,errV (preserve s c).2])∧Below w.heap.size w w'
theorem ResPost.mk {s:St} {a:Option Addr} {cap:Nat} {c:Cmd} {w w':World} {e:Ending} {t:St} {f:Int} (hp:preserve s c=(t,f)) (he:e=.returned (.tuple #[stT s a cap t.typ t.holder,errV f])) (hb:Below w.heap.size w w'):ResPost s a cap c w e w':=by
 unfold ResPost; rw [hp]; exact ⟨he,hb⟩
set_option maxRecDepth 100000 in
set_option maxHeartbeats 1000000 in
theorem reserve_any (s:St) (a:Option Addr) (cap:Nat) (c:Cmd) (w:World) (hr:StR w s a) :
  Calls Tryz.prog 88 #[stV s a cap,cmdV c] w (ResPost s a cap c w):=by
 have hr3:∀ o p q,StR (((w.alloc o).alloc p).alloc q) s a:=fun o p q=>((hr.below (bal w o)).below (bal _ p)).below (bal _ q)
 have HR:=Lib.hid hr3
 clear hr3 hr
 by_cases h0:0<s.typ
 ·have P0:=Lib.hid (show preserve s c=(if holds s c.who=true∧s.typ=c.typ then (s,0) else (s,4)) from by unfold preserve; rw [if_pos h0])
  cases hh:holds s c.who
  ·have P1:=Lib.hid (P0.out.trans (if_neg (by rw [hh]; simp)))
   clear P0
   go_enter Tryz.func88,Tryz.ntmps88
   go_wp2_with fail
   refine (holds_any s a cap c.who _ (HR.out _ _ _)).mono ?_
   rintro e w1 ⟨rfl,b1⟩
   rw [hh]
   clear hh
   obtain ⟨hcc,hf⟩:=bcell b1
   go_wp2
   refine bodyPost_ret (v:=.tuple #[.agg #[.int .i64 s.gen,.slice a s.regs.length cap,.int .i64 s.typ,.int .i64 s.holder,.bool s.stays],.iface 69 (.int .i64 4)]) (by simp [results,Tryz.results88,go_sem, *]) rfl ?_
   refine ResPost.mk P1.out rfl ?_
   repeat (first | with_reducible refine Below.setCell ?_ (by simp <;> omega) _ | exact (bal3' w _ _ _).trans (b1.mono (by simp; omega)))
  ·by_cases ht:s.typ=c.typ
   ·have P1:=Lib.hid (P0.out.trans (if_pos ⟨hh,ht⟩))
    have htb:(s.typ == c.typ)=true:=by simp [ht]
    clear P0 ht
    go_enter Tryz.func88,Tryz.ntmps88
    go_wp2_with fail
    refine (holds_any s a cap c.who _ (HR.out _ _ _)).mono ?_
    rintro e w1 ⟨rfl,b1⟩
    rw [hh]
    clear hh
    obtain ⟨hcc,hf⟩:=bcell b1
    go_wp2
    refine bodyPost_ret (v:=.tuple #[.agg #[.int .i64 s.gen,.slice a s.regs.length cap,.int .i64 s.typ,.int .i64 s.holder,.bool s.stays],.nilIface]) (by simp [results,Tryz.results88,go_sem, *]) rfl ?_
    refine ResPost.mk P1.out rfl ?_
    repeat (first | with_reducible refine Below.setCell ?_ (by simp <;> omega) _ | exact (bal3' w _ _ _).trans (b1.mono (by simp; omega)))
   ·have P1:=Lib.hid (P0.out.trans (if_neg (fun x=>ht x.2)))
    have htb:(s.typ == c.typ)=false:=by simp [ht]
    clear P0 ht
    go_enter Tryz.func88,Tryz.ntmps88
    go_wp2_with fail
    refine (holds_any s a cap c.who _ (HR.out _ _ _)).mono ?_
    rintro e w1 ⟨rfl,b1⟩
    rw [hh]
    clear hh
    obtain ⟨hcc,hf⟩:=bcell b1
    go_wp2
    refine bodyPost_ret (v:=.tuple #[.agg #[.int .i64 s.gen,.slice a s.regs.length cap,.int .i64 s.typ,.int .i64 s.holder,.bool s.stays],.iface 69 (.int .i64 4)]) (by simp [results,Tryz.results88,go_sem, *]) rfl ?_
    refine ResPost.mk P1.out rfl ?_
    repeat (first | with_reducible refine Below.setCell ?_ (by simp <;> omega) _ | exact (bal3' w _ _ _).trans (b1.mono (by simp; omega)))
 ·have P1:=Lib.hid (show preserve s c=(s.take c.typ c.who,0) from by unfold preserve; rw [if_neg h0])
  have TH:=Lib.hid (show (s.take c.typ c.who).holder=if allT c.typ then 0 else c.who from rfl)
  clear HR
  cases hal:allT c.typ
  ·have TH1:=Lib.hid (show (s.take c.typ c.who).holder=c.who from by rw [TH.out]; simp [hal])
   clear TH
   go_enter Tryz.func88,Tryz.ntmps88
   go_wp2
   go_region
   go_wp2_with fail
   refine (all_any ⟨s.gen,s.regs,c.typ,c.who,s.stays⟩ a cap _).mono ?_
   rintro e w1 ⟨rfl,b1⟩
   dsimp only
   rw [hal]
   clear hal
   obtain ⟨hcc,hf⟩:=bcell b1
   go_wp2
   refine bodyPost_ret (v:=.tuple #[.agg #[.int .i64 s.gen,.slice a s.regs.length cap,.int .i64 c.typ,.int .i64 c.who,.bool s.stays],.nilIface]) (by simp [results,Tryz.results88,go_sem, *]) rfl ?_
   refine ResPost.mk P1.out (by rw [TH1.out]; rfl) ?_
   repeat (first | with_reducible refine Below.setCell ?_ (by simp <;> omega) _ | exact (bal3' w _ _ _).trans ((((Below.refl _ _).drew).trans b1).mono (by simp; omega)))
  ·have TH1:=Lib.hid (show (s.take c.typ c.who).holder=0 from by rw [TH.out]; simp [hal])
   clear TH
   go_enter Tryz.func88,Tryz.ntmps88
   go_wp2
   go_region
   go_wp2_with fail
   refine (all_any ⟨s.gen,s.regs,c.typ,c.who,s.stays⟩ a cap _).mono ?_
   rintro e w1 ⟨rfl,b1⟩
   dsimp only
   rw [hal]
   clear hal
   obtain ⟨⟨d0,d1,d2,d3,d4⟩,f0,f1,f2,f3,f4⟩:=box5 b1 (b:=w.heap.size) (by simp; omega) (heap3 w _ _ _).1
   obtain ⟨⟨e0,e1,e2,e3,e4⟩,g0,g1,g2,g3,g4⟩:=box5 b1 (b:=w.heap.size+1+1) (by simp) (heap3 w _ _ _).2.2
   go_wp2
   refine bodyPost_ret (v:=.tuple #[.agg #[.int .i64 s.gen,.slice a s.regs.length cap,.int .i64 c.typ,.int .i64 0,.bool s.stays],.nilIface]) (by simp [results,Tryz.results88,go_sem, *]) rfl ?_
   refine ResPost.mk P1.out (by rw [TH1.out]; rfl) ?_
   repeat (first | with_reducible refine Below.setCell ?_ (by simp <;> omega) _ | exact (bal3' w _ _ _).trans ((((Below.refl _ _).drew).trans b1).mono (by simp; omega)))
end Go.Proofs.YtbkmdmmgalmmaaaGreatDoor

namespace Go.Proofs.YtbkmdmmgalmmaaaGreatDoor
open Go.RowKit Go.Sort
def cfS (c:Cmd):Int:=if smallB c.data=true∧smallB c.want=true then 0 else 2
def cfL (c:Cmd):Int:=if 8<c.data.size∨8<c.want.size then 1 else cfS c
def badParts (c:Cmd):Bool :=
 (decide (c.op=3∨c.op=4∨c.op=6) && !typeMay c.typ) || (decide (¬ (c.op=3∨c.op=4∨c.op=6)) && decide (c.typ≠0)) || (decide (2<c.op) && c.stays) || (decide (c.op<8) && decide (c.data.size≠0)) || (decide (c.op<9) && decide (c.want.size≠0))
def cfP (c:Cmd):Int:=if badParts c=true then 2 else cfL c
def stage (has:Bool) (x most:Int) (rest:Int):Int:=if has=false∧x≠0 then 2 else if x<0∨most<x then 1 else rest
def cfA (c:Cmd):Int:=stage (decide (7≤c.op)) c.at' 7 (cfP c)
def cfN (c:Cmd):Int:=stage (decide (c.op=1∨c.op=2∨c.op=6)) c.new 999 (cfA c)
def cfK (c:Cmd):Int:=stage (decide (c.op≤6)) c.key 999 (cfN c)
def cmdFault (c:Cmd):Int:=if c.op<1∨9<c.op then 2 else if c.who<1∨4<c.who then 1 else cfK c
theorem hasB_tab (n:Nat) (h:1≤n∧n≤9):hasB n 107=decide ((n:Int)≤6)∧hasB n 110=decide ((n:Int)=1∨(n:Int)=2∨(n:Int)=6)∧hasB n 97=decide (7≤(n:Int))∧hasB n 116=decide ((n:Int)=3∨(n:Int)=4∨(n:Int)=6)∧hasB n 115=decide (¬ 2<(n:Int))∧hasB n 100=decide (¬ (n:Int)<8)∧hasB n 119=decide (¬ (n:Int)<9):=by
 rcases (by omega:n=1∨n=2∨n=3∨n=4∨n=5∨n=6∨n=7∨n=8∨n=9) with rfl | rfl | rfl | rfl | rfl | rfl | rfl | rfl | rfl <;> decide +kernel
theorem has_x (n:Nat) (h:1≤n∧n≤9) (c:Int) (p:UInt8) (hc:c.toNat.toUInt8=p) (b:Bool) (hb:hasB n p=b) (w:World) :
  Calls Tryz.prog 22 #[.int .i64 n,.int .u8 c] w fun e w'=>e=.returned (.bool b)∧Below w.heap.size w w':=by
 subst hb; exact has_any n h c p hc w
theorem type_x (n:Int) (b:Bool) (hb:typeMay n=b) (w:World) :
  Calls Tryz.prog 23 #[.int .i64 n] w fun e w'=>e=.returned (.bool b)∧Below w.heap.size w w':=by
 subst hb; exact type_any n w
abbrev cmdC (c:Cmd):Array Value:=#[.int .i64 c.op,.int .i64 c.who,.int .i64 c.key,.int .i64 c.new,.int .i64 c.typ,.int .i64 c.at',.bool c.stays,.string c.data,.string c.want]
theorem box9 {w:World} {b:Nat} {c:Cmd} {T:TypeId} (h:w.heap[b]?=some (.cells (cmdC c) T (0,0))) :
  w.cell? ⟨b,0,none⟩=some (.int .i64 c.op)∧w.cell? ⟨b,1,none⟩=some (.int .i64 c.who)∧w.cell? ⟨b,2,none⟩=some (.int .i64 c.key)∧w.cell? ⟨b,3,none⟩=some (.int .i64 c.new)∧w.cell? ⟨b,4,none⟩=some (.int .i64 c.typ)∧w.cell? ⟨b,5,none⟩=some (.int .i64 c.at')∧w.cell? ⟨b,6,none⟩=some (.bool c.stays)∧w.cell? ⟨b,7,none⟩=some (.string c.data)∧w.cell? ⟨b,8,none⟩=some (.string c.want):=by
 simp [World.cell?,h]
abbrev tabC (c:Cmd):Array Value:=#[.int .u8 107,.int .i64 c.key,.int .i64 999,.int .u8 110,.int .i64 c.new,.int .i64 999,.int .u8 97,.int .i64 c.at',.int .i64 7]
theorem tab9 {w:World} {b:Nat} {c:Cmd} {T:TypeId} (h:w.heap[b]?=some (.cells (tabC c) T (0,0))) :
  w.cell? ⟨b,0,none⟩=some (.int .u8 107)∧w.cell? ⟨b,1,none⟩=some (.int .i64 c.key)∧w.cell? ⟨b,2,none⟩=some (.int .i64 999)∧w.cell? ⟨b,3,none⟩=some (.int .u8 110)∧w.cell? ⟨b,4,none⟩=some (.int .i64 c.new)∧w.cell? ⟨b,5,none⟩=some (.int .i64 999)∧w.cell? ⟨b,6,none⟩=some (.int .u8 97)∧w.cell? ⟨b,7,none⟩=some (.int .i64 c.at')∧w.cell? ⟨b,8,none⟩=some (.int .i64 7):=by
 simp [World.cell?,h]
def restF (c:Cmd):Nat→Int
 | 0=>cfK c
 | 1=>cfN c
 | 2=>cfA c
 | _=>cfP c
theorem stage_two {b:Bool} {x m r:Int} (hb:b=false) (hx:x≠0):stage b x m r=2:=by unfold stage; rw [if_pos ⟨hb,hx⟩]
theorem stage_one {b:Bool} {x m r:Int} (hb:¬ (b=false∧x≠0)) (hx:x<0∨m<x):stage b x m r=1:=by unfold stage; rw [if_neg hb,if_pos hx]
theorem stage_on {b:Bool} {x m r:Int} (hb:¬ (b=false∧x≠0)) (hx:¬ (x<0∨m<x)):stage b x m r=r:=by unfold stage; rw [if_neg hb,if_neg hx]
def CkPost (c:Cmd) (w:World) (e:Ending) (w':World):Prop:=e=.returned (errV (cmdFault c))∧Below w.heap.size w w'
theorem CkPost.err {c:Cmd} {w w':World} {f:Int} (h:cmdFault c=f) (hf:f≠0) (hb:Below w.heap.size w w'):CkPost c w (.returned (.iface 69 (.int .i64 f))) w':=⟨ret_err h hf,hb⟩
theorem CkPost.ok {c:Cmd} {w w':World} (h:cmdFault c=0) (hb:Below w.heap.size w w'):CkPost c w (.returned .nilIface) w':=⟨ret_nil h,hb⟩
theorem isEmpty_size (d:ByteArray):(!d.toList.isEmpty)=decide (d.size≠0):=by
 rw [ByteArray.toList_eq]
 cases d with | mk a=>cases a with | mk l=>cases l <;> simp [ByteArray.size]
theorem bad_eq (n:Nat) (h:1≤n∧n≤9) (who key new typ at_:Int) (stays:Bool) (data want:ByteArray) :
  badParts ⟨n,who,key,new,typ,at_,stays,data,want⟩=((bif hasB n 116 then !typeMay typ else (typeMay typ || decide (typ≠0))) || (!hasB n 115 && stays) || (!hasB n 100 && decide (data.size≠0)) || (!hasB n 119 && decide (want.size≠0))):=by
 have ht:typeMay typ=true→typ≠0:=by intro h e; subst e; simp [typeMay] at h
 obtain ⟨-,-,-,e1,e2,e3,e4⟩:=hasB_tab n h
 rw [e1,e2,e3,e4]
 unfold badParts
 simp only [decide_not,Bool.not_not]
 by_cases hk:(n:Int)=3∨(n:Int)=4∨(n:Int)=6
 ·simp [hk]
 ·cases hm:typeMay typ
  ·simp [hk]
  ·have:=ht hm
   simp [hk,this]
set_option maxRecDepth 100000 in
set_option maxHeartbeats 4000000 in
theorem ccheck_any (c:Cmd) (w:World) (hs:c.data.size≤9223372036854775807∧c.want.size≤9223372036854775807) :
  Calls Tryz.prog 7 #[cmdV c] w (CkPost c w):=by
 obtain ⟨op,who,key,new,typ,at_,stays,data,want⟩:=c
 by_cases h0:op<1∨9<op
 ·have HF:=Lib.hid (show cmdFault ⟨op,who,key,new,typ,at_,stays,data,want⟩=2 from if_pos h0)
  by_cases h1:op<1
  ·go_enter Tryz.func7,Tryz.ntmps7
   go_wp2
   go_ret
   exact CkPost.err HF.out (by omega) (bal w _)
  ·have h2:9<op:=by omega
   go_enter Tryz.func7,Tryz.ntmps7
   go_wp2
   go_ret
   exact CkPost.err HF.out (by omega) (bal w _)
 have HF0:=Lib.hid (show cmdFault ⟨op,who,key,new,typ,at_,stays,data,want⟩=(if who<1∨4<who then 1 else cfK ⟨op,who,key,new,typ,at_,stays,data,want⟩) from if_neg h0)
 obtain ⟨n,rfl⟩:=Int.eq_ofNat_of_zero_le (show 0≤op by omega)
 have hn:1≤n∧n≤9:=by omega
 have hn1:¬ (n:Int)<1:=by omega
 have hn9:¬ 9<(n:Int):=by omega
 have HH:=Lib.hid (hasB_tab n hn)
 clear h0
 by_cases hw:who<1∨4<who
 ·have HF:=Lib.hid (HF0.out.trans (if_pos hw))
  by_cases h1:who<1
  ·go_enter Tryz.func7,Tryz.ntmps7
   go_wp2
   go_ret
   exact CkPost.err HF.out (by omega) (bal w _)
  ·have h2:4<who:=by omega
   go_enter Tryz.func7,Tryz.ntmps7
   go_wp2
   go_ret
   exact CkPost.err HF.out (by omega) (bal w _)
 have hw1:¬ who<1:=by omega
 have hw4:¬ 4<who:=by omega
 have HF1:=Lib.hid (HF0.out.trans (if_neg hw))
 clear HF0 hw
 go_enter Tryz.func7,Tryz.ntmps7
 go_wp2
 go_loopw [36] (fun i wr=>∃ k:Nat,k≤3∧i=.int .i64 k∧cmdFault ⟨n,who,key,new,typ,at_,stays,data,want⟩=restF ⟨n,who,key,new,typ,at_,stays,data,want⟩ k∧Below (w.heap.size+2) ((w.alloc (.cells (cmdC ⟨n,who,key,new,typ,at_,stays,data,want⟩) 24)).alloc (.cells (tabC ⟨n,who,key,new,typ,at_,stays,data,want⟩) 70)) wr) (fun i _=>(3 - intOf i).toNat)
 case atStart=>exact ⟨0,by omega,rfl,HF1.out,Below.refl _ _⟩
 case round =>
  obtain ⟨k,hk,rfl,hF,hb⟩:=hrel
  have HF:=Lib.hid hF
  have HB:=Lib.hid hb
  have hz:w.heap.size+2≤wr.heap.size:=by have:=hb.size; simp at this; omega
  have hz0:w.heap.size<wr.heap.size:=by omega
  have hz1:w.heap.size+1<wr.heap.size:=by omega
  have HC:=Lib.hid ((hb.block w.heap.size (by omega)).trans (heap_alloc2_old w _ _))
  have HT:=Lib.hid ((hb.block (w.heap.size+1) (by omega)).trans (heap_alloc2_new w _ _))
  have HBW:=Lib.hid (show Below w.heap.size w wr from ((bal w _).alloc (by simp) _).trans (hb.mono (by omega)))
  clear hF hb
  obtain ⟨c0,c1,c2,c3,c4,c5,c6,c7,c8⟩:=box9 HC.out
  obtain ⟨t0,t1,t2,t3,t4,t5,t6,t7,t8⟩:=tab9 HT.out
  rcases (by omega:k=0∨k=1∨k=2∨k=3) with rfl | rfl | rfl | rfl
  ·obtain ⟨b,hb⟩:∃ b,hasB n 107=b:=⟨_,rfl⟩
   have HQ:=Lib.hid (show cmdFault ⟨n,who,key,new,typ,at_,stays,data,want⟩=stage b key 999 (restF ⟨n,who,key,new,typ,at_,stays,data,want⟩ 1) from HF.out.trans (by rw [← hb,HH.out.1]; rfl))
   have HB2:=Lib.hid hb
   clear hb
   go_wp2_with fail
   refine (has_x n hn 107 107 (by decide) b HB2.out _).mono ?_
   rintro e w5 ⟨rfl,b5⟩
   have B5:=Lib.hid (show Below (w.heap.size+2) ((w.alloc (.cells (cmdC ⟨n,who,key,new,typ,at_,stays,data,want⟩) 24)).alloc (.cells (tabC ⟨n,who,key,new,typ,at_,stays,data,want⟩) 70)) w5 from HB.out.trans (((bal wr _).trans (b5.mono (bal wr _).size)).mono (by omega)))
   have BW5:=Lib.hid (HBW.out.trans (((bal wr _).trans (b5.mono (bal wr _).size)).mono HBW.out.size))
   have H3:=Lib.hid ((b5.block wr.heap.size (by simp)).trans (heap_alloc_new wr _))
   clear b5 c0 c1 c2 c3 c4 c5 c6 c7 c8 t0 t1 t2 t3 t4 t5 t6 t7 t8
   have r1:w5.cell? ⟨wr.heap.size,1,none⟩=some (.int .i64 key):=by simp [World.cell?,H3.out]
   have r2:w5.cell? ⟨wr.heap.size,2,none⟩=some (.int .i64 999):=by simp [World.cell?,H3.out]
   cases b
   ·by_cases hx:key=0
    ·have HN:=Lib.hid (HQ.out.trans (stage_on (fun h=>h.2 hx) (by omega)))
     have e1:(key != 0)=false:=by simp [hx]
     have e2:¬ key<0:=by omega
     have e3:¬ 999<key:=by omega
     clear hx
     go_wp2
     go_roundw
     case rel=>exact ⟨1,by omega,by go_num,HN.out,B5.out⟩
     case measure=>simp [intOf]
    ·have HN:=Lib.hid (HQ.out.trans (stage_two rfl hx))
     have e1:(key != 0)=true:=by simp [hx]
     clear hx
     go_wp2
     go_ret
     exact CkPost.err HN.out (by omega) BW5.out
   ·by_cases hx:key<0∨999<key
    ·have HN:=Lib.hid (HQ.out.trans (stage_one (fun h=>by cases h.1) hx))
     by_cases e2:key<0
     ·clear hx
      go_wp2
      go_ret
      exact CkPost.err HN.out (by omega) BW5.out
     ·have e3:999<key:=by omega
      clear hx
      go_wp2
      go_ret
      exact CkPost.err HN.out (by omega) BW5.out
    ·have HN:=Lib.hid (HQ.out.trans (stage_on (fun h=>by cases h.1) hx))
     have e2:¬ key<0:=by omega
     have e3:¬ 999<key:=by omega
     clear hx
     go_wp2
     go_roundw
     case rel=>exact ⟨1,by omega,by go_num,HN.out,B5.out⟩
     case measure=>simp [intOf]
  ·obtain ⟨b,hb⟩:∃ b,hasB n 110=b:=⟨_,rfl⟩
   have HQ:=Lib.hid (show cmdFault ⟨n,who,key,new,typ,at_,stays,data,want⟩=stage b new 999 (restF ⟨n,who,key,new,typ,at_,stays,data,want⟩ 2) from HF.out.trans (by rw [← hb,HH.out.2.1]; rfl))
   have HB2:=Lib.hid hb
   clear hb
   go_wp2_with fail
   refine (has_x n hn 110 110 (by decide) b HB2.out _).mono ?_
   rintro e w5 ⟨rfl,b5⟩
   have B5:=Lib.hid (show Below (w.heap.size+2) ((w.alloc (.cells (cmdC ⟨n,who,key,new,typ,at_,stays,data,want⟩) 24)).alloc (.cells (tabC ⟨n,who,key,new,typ,at_,stays,data,want⟩) 70)) w5 from HB.out.trans (((bal wr _).trans (b5.mono (bal wr _).size)).mono (by omega)))
   have BW5:=Lib.hid (HBW.out.trans (((bal wr _).trans (b5.mono (bal wr _).size)).mono HBW.out.size))
   have H3:=Lib.hid ((b5.block wr.heap.size (by simp)).trans (heap_alloc_new wr _))
   clear b5 c0 c1 c2 c3 c4 c5 c6 c7 c8 t0 t1 t2 t3 t4 t5 t6 t7 t8
   have r1:w5.cell? ⟨wr.heap.size,1,none⟩=some (.int .i64 new):=by simp [World.cell?,H3.out]
   have r2:w5.cell? ⟨wr.heap.size,2,none⟩=some (.int .i64 999):=by simp [World.cell?,H3.out]
   cases b
   ·by_cases hx:new=0
    ·have HN:=Lib.hid (HQ.out.trans (stage_on (fun h=>h.2 hx) (by omega)))
     have e1:(new != 0)=false:=by simp [hx]
     have e2:¬ new<0:=by omega
     have e3:¬ 999<new:=by omega
     clear hx
     go_wp2
     go_roundw
     case rel=>exact ⟨2,by omega,by go_num,HN.out,B5.out⟩
     case measure=>simp [intOf]
    ·have HN:=Lib.hid (HQ.out.trans (stage_two rfl hx))
     have e1:(new != 0)=true:=by simp [hx]
     clear hx
     go_wp2
     go_ret
     exact CkPost.err HN.out (by omega) BW5.out
   ·by_cases hx:new<0∨999<new
    ·have HN:=Lib.hid (HQ.out.trans (stage_one (fun h=>by cases h.1) hx))
     by_cases e2:new<0
     ·clear hx
      go_wp2
      go_ret
      exact CkPost.err HN.out (by omega) BW5.out
     ·have e3:999<new:=by omega
      clear hx
      go_wp2
      go_ret
      exact CkPost.err HN.out (by omega) BW5.out
    ·have HN:=Lib.hid (HQ.out.trans (stage_on (fun h=>by cases h.1) hx))
     have e2:¬ new<0:=by omega
     have e3:¬ 999<new:=by omega
     clear hx
     go_wp2
     go_roundw
     case rel=>exact ⟨2,by omega,by go_num,HN.out,B5.out⟩
     case measure=>simp [intOf]
  ·obtain ⟨b,hb⟩:∃ b,hasB n 97=b:=⟨_,rfl⟩
   have HQ:=Lib.hid (show cmdFault ⟨n,who,key,new,typ,at_,stays,data,want⟩=stage b at_ 7 (restF ⟨n,who,key,new,typ,at_,stays,data,want⟩ 3) from HF.out.trans (by rw [← hb,HH.out.2.2.1]; rfl))
   have HB2:=Lib.hid hb
   clear hb
   go_wp2_with fail
   refine (has_x n hn 97 97 (by decide) b HB2.out _).mono ?_
   rintro e w5 ⟨rfl,b5⟩
   have B5:=Lib.hid (show Below (w.heap.size+2) ((w.alloc (.cells (cmdC ⟨n,who,key,new,typ,at_,stays,data,want⟩) 24)).alloc (.cells (tabC ⟨n,who,key,new,typ,at_,stays,data,want⟩) 70)) w5 from HB.out.trans (((bal wr _).trans (b5.mono (bal wr _).size)).mono (by omega)))
   have BW5:=Lib.hid (HBW.out.trans (((bal wr _).trans (b5.mono (bal wr _).size)).mono HBW.out.size))
   have H3:=Lib.hid ((b5.block wr.heap.size (by simp)).trans (heap_alloc_new wr _))
   clear b5 c0 c1 c2 c3 c4 c5 c6 c7 c8 t0 t1 t2 t3 t4 t5 t6 t7 t8
   have r1:w5.cell? ⟨wr.heap.size,1,none⟩=some (.int .i64 at_):=by simp [World.cell?,H3.out]
   have r2:w5.cell? ⟨wr.heap.size,2,none⟩=some (.int .i64 7):=by simp [World.cell?,H3.out]
   cases b
   ·by_cases hx:at_=0
    ·have HN:=Lib.hid (HQ.out.trans (stage_on (fun h=>h.2 hx) (by omega)))
     have e1:(at_ != 0)=false:=by simp [hx]
     have e2:¬ at_<0:=by omega
     have e3:¬ 7<at_:=by omega
     clear hx
     go_wp2
     go_roundw
     case rel=>exact ⟨3,by omega,by go_num,HN.out,B5.out⟩
     case measure=>simp [intOf]
    ·have HN:=Lib.hid (HQ.out.trans (stage_two rfl hx))
     have e1:(at_ != 0)=true:=by simp [hx]
     clear hx
     go_wp2
     go_ret
     exact CkPost.err HN.out (by omega) BW5.out
   ·by_cases hx:at_<0∨7<at_
    ·have HN:=Lib.hid (HQ.out.trans (stage_one (fun h=>by cases h.1) hx))
     by_cases e2:at_<0
     ·clear hx
      go_wp2
      go_ret
      exact CkPost.err HN.out (by omega) BW5.out
     ·have e3:7<at_:=by omega
      clear hx
      go_wp2
      go_ret
      exact CkPost.err HN.out (by omega) BW5.out
    ·have HN:=Lib.hid (HQ.out.trans (stage_on (fun h=>by cases h.1) hx))
     have e2:¬ at_<0:=by omega
     have e3:¬ 7<at_:=by omega
     clear hx
     go_wp2
     go_roundw
     case rel=>exact ⟨3,by omega,by go_num,HN.out,B5.out⟩
     case measure=>simp [intOf]
  ·have hzz:wr.heap.size≤wr.heap.size:=Nat.le_refl _
   have HX:=Lib.hid (bad_eq n hn who key new typ at_ stays data want)
   have HF3:=Lib.hid (show cmdFault ⟨n,who,key,new,typ,at_,stays,data,want⟩=cfP ⟨n,who,key,new,typ,at_,stays,data,want⟩ from HF.out)
   clear t0 t1 t2 t3 t4 t5 t6 t7 t8
   obtain ⟨X,hX⟩:∃ X,(bif hasB n 116 then !typeMay typ else (typeMay typ || decide (typ≠0)))=X:=⟨_,rfl⟩
   have HX1:=Lib.hid hX
   clear hX
   obtain ⟨BP,hBP⟩:∃ x,badParts ⟨n,who,key,new,typ,at_,stays,data,want⟩=x:=⟨_,rfl⟩
   have HBP:=Lib.hid hBP
   clear hBP
   go_upto_block 2 with fail
   go_step
   go_step
   go_cut [64] (fun v wx=>v=.bool BP∧Below wr.heap.size wr wx)
   case first =>
    go_upto_region 13 with fail
    go_cut [64] (fun v wx=>v=.bool X∧Below wr.heap.size wr wx)
    case first =>
     have hq:=bregrown (Below.refl wr.heap.size wr)
     obtain ⟨b,hb⟩:∃ b,hasB n 116=b:=⟨_,rfl⟩
     obtain ⟨m,hm⟩:∃ m,typeMay typ=m:=⟨_,rfl⟩
     have HX2:=Lib.hid (show (bif b then !m else (m || decide (typ≠0)))=X from by rw [← hb,← hm]; exact HX1.out)
     have HBX:=Lib.hid hb
     have HMX:=Lib.hid hm
     clear hb hm
     cases b <;> cases m
     ·by_cases ht:typ=0
      ·have e1:(typ != 0)=false:=by simp [ht]
       have HX3:=Lib.hid (show false=X from by rw [← HX2.out]; simp [ht])
       clear ht
       refine wp_region_quiet_below (by kernel_rfl) (by kernel_rfl) ?_
       repeat (go_big_quiet_step (first | exact Calls.regrown_of (has_x n hn 116 116 (by decide) _ HBX.out _) | exact Calls.regrown_of (type_x typ _ HMX.out _)))
       refine wpQuiet_nil ?_
       rintro w' ⟨⟨dq,osq⟩,rfl⟩
       go_wp2_with fail
       go_meet
       exact ⟨by rw [← HX3.out],below_regrown _ dq osq⟩
      ·have e1:(typ != 0)=true:=by simp [ht]
       have HX3:=Lib.hid (show true=X from by rw [← HX2.out]; simp [ht])
       clear ht
       refine wp_region_quiet_below (by kernel_rfl) (by kernel_rfl) ?_
       repeat (go_big_quiet_step (first | exact Calls.regrown_of (has_x n hn 116 116 (by decide) _ HBX.out _) | exact Calls.regrown_of (type_x typ _ HMX.out _)))
       refine wpQuiet_nil ?_
       rintro w' ⟨⟨dq,osq⟩,rfl⟩
       go_wp2_with fail
       go_meet
       exact ⟨by rw [← HX3.out],below_regrown _ dq osq⟩
     ·have HX3:=Lib.hid (show true=X from by rw [← HX2.out]; simp)
      refine wp_region_quiet_below (by kernel_rfl) (by kernel_rfl) ?_
      repeat (go_big_quiet_step (first | exact Calls.regrown_of (has_x n hn 116 116 (by decide) _ HBX.out _) | exact Calls.regrown_of (type_x typ _ HMX.out _)))
      refine wpQuiet_nil ?_
      rintro w' ⟨⟨dq,osq⟩,rfl⟩
      go_wp2_with fail
      go_meet
      exact ⟨by rw [← HX3.out],below_regrown _ dq osq⟩
     ·have HX3:=Lib.hid (show true=X from by rw [← HX2.out]; simp)
      refine wp_region_quiet_below (by kernel_rfl) (by kernel_rfl) ?_
      repeat (go_big_quiet_step (first | exact Calls.regrown_of (has_x n hn 116 116 (by decide) _ HBX.out _) | exact Calls.regrown_of (type_x typ _ HMX.out _)))
      refine wpQuiet_nil ?_
      rintro w' ⟨⟨dq,osq⟩,rfl⟩
      go_wp2_with fail
      go_meet
      exact ⟨by rw [← HX3.out],below_regrown _ dq osq⟩
     ·have HX3:=Lib.hid (show false=X from by rw [← HX2.out]; simp)
      refine wp_region_quiet_below (by kernel_rfl) (by kernel_rfl) ?_
      repeat (go_big_quiet_step (first | exact Calls.regrown_of (has_x n hn 116 116 (by decide) _ HBX.out _) | exact Calls.regrown_of (type_x typ _ HMX.out _)))
      refine wpQuiet_nil ?_
      rintro w' ⟨⟨dq,osq⟩,rfl⟩
      go_wp2_with fail
      go_meet
      exact ⟨by rw [← HX3.out],below_regrown _ dq osq⟩
    case rest =>
     obtain ⟨rfl,b6⟩:=hcut
     have BW6:=Lib.hid b6
     have HC6:=Lib.hid ((b6.block w.heap.size hz0).trans HC.out)
     have hz6:w.heap.size<wc.heap.size:=Nat.lt_of_lt_of_le hz0 b6.size
     have HX4:=Lib.hid (show badParts ⟨n,who,key,new,typ,at_,stays,data,want⟩=(X || (!hasB n 115 && stays) || (!hasB n 100 && decide (data.size≠0)) || (!hasB n 119 && decide (want.size≠0))) from by rw [HX.out,HX1.out])
     clear b6 c0 c1 c2 c3 c4 c5 c6 c7 c8 HX HX1
     obtain ⟨c0,c1,c2,c3,c4,c5,c6,c7,c8⟩:=box9 HC6.out
     cases X
     ·obtain ⟨x2,hx2⟩:∃ x,(!hasB n 115 && stays)=x:=⟨_,rfl⟩
      rw [hx2] at HX4
      have HYx2:=Lib.hid hx2
      clear hx2
      obtain ⟨wox2,rfl⟩:∃ wo:World,wo=wc:=⟨_,rfl⟩
      go_upto_region 14 with fail
      go_cut [64] (fun v wx=>v=.bool x2∧Below wox2.heap.size wox2 wx)
      case first =>
       obtain ⟨b,hb⟩:∃ b,hasB n 115=b:=⟨_,rfl⟩
       rw [hb] at HYx2
       have HB5:=Lib.hid hb
       clear hb
       go_wp2_with fail
       refine (has_x n hn 115 115 (by decide) b HB5.out _).mono ?_
       rintro e w7 ⟨rfl,b7⟩
       obtain ⟨d0,d1,d2,d3,d4,d5,d6,d7,d8⟩:=box9 ((b7.block w.heap.size hz6).trans HC6.out)
       have B7:=Lib.hid b7
       clear b7
       cases b
       ·have HY3:=Lib.hid (show stays=x2 from HYx2.out)
        go_wp2_with fail
        go_meet
        exact ⟨by rw [HY3.out],B7.out⟩
       ·have HY3:=Lib.hid (show false=x2 from HYx2.out)
        go_wp2_with fail
        go_meet
        exact ⟨by rw [HY3.out],B7.out⟩
      case rest =>
       obtain ⟨rfl,b7⟩:=hcut
       have BWx2:=Lib.hid (BW6.out.trans (b7.mono BW6.out.size))
       have HCx2:=Lib.hid ((b7.block w.heap.size hz6).trans HC6.out)
       have hzx2:w.heap.size<wc.heap.size:=Nat.lt_of_lt_of_le hz6 b7.size
       clear b7 c0 c1 c2 c3 c4 c5 c6 c7 c8
       obtain ⟨c0,c1,c2,c3,c4,c5,c6,c7,c8⟩:=box9 HCx2.out
       cases x2
       ·obtain ⟨x3,hx3⟩:∃ x,(!hasB n 100 && decide (data.size≠0))=x:=⟨_,rfl⟩
        rw [hx3] at HX4
        have HYx3:=Lib.hid hx3
        clear hx3
        obtain ⟨wox3,rfl⟩:∃ wo:World,wo=wc:=⟨_,rfl⟩
        go_upto_region 15 with fail
        go_cut [64] (fun v wx=>v=.bool x3∧Below wox3.heap.size wox3 wx)
        case first =>
         obtain ⟨b,hb⟩:∃ b,hasB n 100=b:=⟨_,rfl⟩
         rw [hb] at HYx3
         have HB5:=Lib.hid hb
         clear hb
         go_wp2_with fail
         refine (has_x n hn 100 100 (by decide) b HB5.out _).mono ?_
         rintro e w7 ⟨rfl,b7⟩
         obtain ⟨d0,d1,d2,d3,d4,d5,d6,d7,d8⟩:=box9 ((b7.block w.heap.size hzx2).trans HCx2.out)
         have B7:=Lib.hid b7
         clear b7
         cases b
         ·have HY3:=Lib.hid (show decide (data.size≠0)=x3 from HYx3.out)
          go_wp2_with fail
          go_meet
          exact ⟨by rw [← HY3.out,isEmpty_size],B7.out⟩
         ·have HY3:=Lib.hid (show false=x3 from HYx3.out)
          go_wp2_with fail
          go_meet
          exact ⟨by rw [HY3.out],B7.out⟩
        case rest =>
         obtain ⟨rfl,b7⟩:=hcut
         have BWx3:=Lib.hid (BWx2.out.trans (b7.mono BWx2.out.size))
         have HCx3:=Lib.hid ((b7.block w.heap.size hzx2).trans HCx2.out)
         have hzx3:w.heap.size<wc.heap.size:=Nat.lt_of_lt_of_le hzx2 b7.size
         clear b7 c0 c1 c2 c3 c4 c5 c6 c7 c8
         obtain ⟨c0,c1,c2,c3,c4,c5,c6,c7,c8⟩:=box9 HCx3.out
         cases x3
         ·obtain ⟨b,hb⟩:∃ b,hasB n 119=b:=⟨_,rfl⟩
          rw [hb] at HX4
          have HB5:=Lib.hid hb
          clear hb
          go_wp2_with fail
          refine (has_x n hn 119 119 (by decide) b HB5.out _).mono ?_
          rintro e w7 ⟨rfl,b7⟩
          obtain ⟨d0,d1,d2,d3,d4,d5,d6,d7,d8⟩:=box9 ((b7.block w.heap.size hzx3).trans HCx3.out)
          have B7:=Lib.hid (BWx3.out.trans (b7.mono BWx3.out.size))
          clear b7
          cases b
          ·have HY3:=Lib.hid (show decide (want.size≠0)=BP from by rw [← HBP.out,HX4.out]; simp)
           go_wp2_with fail
           go_meet
           exact ⟨by rw [← HY3.out,isEmpty_size],B7.out⟩
          ·have HY3:=Lib.hid (show false=BP from by rw [← HBP.out,HX4.out]; simp)
           go_wp2_with fail
           go_meet
           exact ⟨by rw [HY3.out],B7.out⟩
         ·have HE:=Lib.hid (show true=BP from by rw [← HBP.out,HX4.out]; simp)
          go_wp2_with fail
          go_meet
          exact ⟨by rw [← HE.out],BWx3.out⟩
       ·have HE:=Lib.hid (show true=BP from by rw [← HBP.out,HX4.out]; simp)
        go_wp2_with fail
        go_meet
        exact ⟨by rw [← HE.out],BWx2.out⟩
     ·have HE:=Lib.hid (show true=BP from by rw [← HBP.out,HX4.out]; simp)
      go_wp2_with fail
      go_meet
      exact ⟨by rw [← HE.out],BW6.out⟩
   case rest =>
    obtain ⟨wo,rfl⟩:∃ wo:World,wo=wc:=⟨_,rfl⟩
    obtain ⟨rfl,b6⟩:=hcut
    have BW6:=Lib.hid (HBW.out.trans (b6.mono HBW.out.size))
    have HC6:=Lib.hid ((b6.block w.heap.size hz0).trans HC.out)
    have hz6:w.heap.size<wo.heap.size:=Nat.lt_of_lt_of_le hz0 b6.size
    clear b6 c0 c1 c2 c3 c4 c5 c6 c7 c8 HX HX1
    obtain ⟨c0,c1,c2,c3,c4,c5,c6,c7,c8⟩:=box9 HC6.out
    cases BP
    ·have HP1:=Lib.hid (HF3.out.trans (if_neg (by rw [HBP.out]; simp)))
     by_cases hd:8<data.size∨8<want.size
     ·have HE:=Lib.hid (HP1.out.trans (if_pos hd))
      by_cases h1:(8:Int)<data.size
      ·go_wp2
       go_ret
       exact CkPost.err HE.out (by omega) BW6.out
      ·have h2:(8:Int)<want.size:=by omega
       go_wp2
       go_ret
       exact CkPost.err HE.out (by omega) BW6.out
     ·have HE:=Lib.hid (HP1.out.trans (if_neg hd))
      have h1:¬ (8:Int)<data.size:=by omega
      have h2:¬ (8:Int)<want.size:=by omega
      clear HP1
      have HW1:=Lib.hid (fun (wz:World) (hb:Below wo.heap.size wo wz)=>BW6.out.trans (hb.mono BW6.out.size))
      go_wp2
      go_loopw [128] (fun i wr=>∃ k:Nat,k≤2∧i=.int .i64 k∧((0<k→smallB data=true)∧(1<k→smallB want=true))∧Below (wo.alloc (.cells #[.string data,.string want] 9)).heap.size (wo.alloc (.cells #[.string data,.string want] 9)) wr) (fun i _=>(2 - intOf i).toNat)
      case atStart=>exact ⟨0,by omega,rfl,⟨fun h=>by omega,fun h=>by omega⟩,Below.refl _ _⟩
      case round =>
       obtain ⟨k,hk,rfl,hS,hb⟩:=hrel
       have HS:=Lib.hid hS
       have HB7:=Lib.hid hb
       have HT7:=Lib.hid ((hb.block wo.heap.size (by simp)).trans (heap_alloc_new wo _))
       have HW7:=Lib.hid (HW1.out _ ((bal wo _).trans (hb.mono (bal wo _).size)))
       clear hS hb c0 c1 c2 c3 c4 c5 c6 c7 c8 h1 h2
       have s0:wr.cell? ⟨wo.heap.size,0,none⟩=some (.string data):=by simp [World.cell?,HT7.out]
       have s1:wr.cell? ⟨wo.heap.size,1,none⟩=some (.string want):=by simp [World.cell?,HT7.out]
       rcases (by omega:k=0∨k=1∨k=2) with rfl | rfl | rfl
       ·obtain ⟨b,hb⟩:∃ b,smallB data=b:=⟨_,rfl⟩
        have HB5:=Lib.hid hb
        clear hb
        go_wp2_with fail
        refine (containsFunc_any data _).mono ?_
        rintro e w8 ⟨rfl,b8⟩
        rw [HB5.out]
        have HW8:=Lib.hid (HW7.out.trans (b8.mono HW7.out.size))
        have HB8:=Lib.hid (HB7.out.trans (b8.mono HB7.out.size))
        clear b8
        cases b
        ·have HE2:=Lib.hid (HE.out.trans (if_neg (by rw [HB5.out]; simp)))
         go_wp2
         go_ret
         exact CkPost.err HE2.out (by omega) HW8.out
        ·go_wp2
         go_roundw
         case rel=>exact ⟨1,by omega,by go_num,⟨fun _=>HB5.out,fun h=>by omega⟩,HB8.out⟩
         case measure=>simp [intOf]
       ·obtain ⟨b,hb⟩:∃ b,smallB want=b:=⟨_,rfl⟩
        have HB5:=Lib.hid hb
        clear hb
        go_wp2_with fail
        refine (containsFunc_any want _).mono ?_
        rintro e w8 ⟨rfl,b8⟩
        rw [HB5.out]
        have HW8:=Lib.hid (HW7.out.trans (b8.mono HW7.out.size))
        have HB8:=Lib.hid (HB7.out.trans (b8.mono HB7.out.size))
        clear b8
        cases b
        ·have HE2:=Lib.hid (HE.out.trans (if_neg (by rw [HB5.out]; simp)))
         go_wp2
         go_ret
         exact CkPost.err HE2.out (by omega) HW8.out
        ·go_wp2
         go_roundw
         case rel=>exact ⟨2,by omega,by go_num,⟨fun _=>HS.out.1 (by omega),fun _=>HB5.out⟩,HB8.out⟩
         case measure=>simp [intOf]
       ·have HE2:=Lib.hid (HE.out.trans (if_pos ⟨HS.out.1 (by omega),HS.out.2 (by omega)⟩))
        go_wp2
        go_ret
        exact CkPost.ok HE2.out HW7.out
    ·have HE:=Lib.hid (HF3.out.trans (if_pos HBP.out))
     go_wp2
     go_ret
     exact CkPost.err HE.out (by omega) BW6.out
end Go.Proofs.YtbkmdmmgalmmaaaGreatDoor
