/-
  Bin, With, KnownPlain, OrdPlain, May, HoldR, RefT, Ref, Less
-/
import Derived.Test.YtajegiifabfcjaaGreatDoorQ01
import Derived.Test.YtajegiifabfcjaaGreatDoorQ08
import Derived.Test.YtajegiifabfcjaaGreatDoorQ04
import Derived.Test.YtajegiifabfcjaaGreatDoorQ07
namespace Go.Proofs.YtajegiifabfcjaaGreatDoor
open Go.RowKit
theorem with2_any (x y who:Int) (w:World) (hx:0≤x∧x≤1000) (hw:0≤who∧who≤1000) :
  Calls Tryz.prog 175 #[.agg #[.int .i64 x,.int .i64 y],.int .i64 who] w fun e w'=>e=.returned (.int .i64 (x - who))∧Below w.heap.size w w':=by
 obtain ⟨hx1,hx2⟩:=hx
 obtain ⟨hw1,hw2⟩:=hw
 go_enter Tryz.func175,Tryz.ntmps175
 go_wp2
 go_ret
 exact ⟨rfl,bal w _⟩
set_option maxHeartbeats 1000000 in
set_option maxRecDepth 100000 in
theorem binsearch_any (l:List (Int × Int)) (a:Option Addr) (cap:Nat) (who:Int) (w:World) (hl:l.length≤1000) (hr:Pairs w.heap.size w a l) (hw:0≤who∧who≤1000) (hb:∀ r∈l,0≤r.1∧r.1≤1000) (hs:l.Pairwise (fun a b=>a.1<b.1)) :
  Calls Tryz.prog 174 #[.slice a l.length cap,.int .i64 who,.func (.func 175) #[] #[]] w fun e w' =>
   ∃ (i:Nat) (f:Bool),e=.returned (.tuple #[.int .i64 i,.bool f])∧i≤l.length∧(∀ j (h:j<l.length),j<i→l[j].1<who)∧(∀ j (h:j<l.length),i≤j→who≤l[j].1)∧Below w.heap.size w w':=by
 have HS:=Lib.hid hs
 have HB:=Lib.hid hb
 clear hs hb
 have HW:=Lib.hid hw
 obtain ⟨hw1,hw2⟩:=hw
 go_enter Tryz.func174,Tryz.ntmps174
 go_wp2
 go_loopw [9,10] (fun i j wr=>∃ p q:Nat,p≤q∧q≤l.length∧i=.int .i64 p∧j=.int .i64 q∧(∀ m (h:m<l.length),m<p→l[m].1<who)∧(∀ m (h:m<l.length),q≤m→who≤l[m].1)∧Below w.heap.size w wr) (fun i j _=>(intOf j).toNat - (intOf i).toNat)
 case atStart=>exact ⟨0,l.length,by omega,by omega,rfl,rfl,fun m h h2=>absurd h2 (by omega),fun m h h2=>absurd h (by omega),Below.refl _ _⟩
 case round =>
  obtain ⟨p,q,hpq,hq,rfl,rfl,hlo,hhi,hbw⟩:=hrel
  have HLO:=Lib.hid hlo
  have HHI:=Lib.hid hhi
  clear hlo hhi
  have hsz:=hbw.size
  by_cases hlt:p<q
  ·have hm:(p+q) / 2<l.length:=by omega
   obtain ⟨b,o,rfl,hbs,h1,h2⟩:=hr ((p+q) / 2) hm
   have c1:=(hbw.cell (p:=⟨b,o+(p+q) / 2*2,none⟩) hbs).trans h1
   have c2:=(hbw.cell (p:=⟨b,o+(p+q) / 2*2+1,none⟩) hbs).trans h2
   have hbd:=HB.out _ (List.getElem_mem hm)
   clear hr h1 h2
   go_wp2_with fail
   refine (with2_any _ _ who _ hbd HW.out).mono ?_
   rintro e w1 ⟨rfl,hb1⟩
   have hb2:=hbw.trans (hb1.mono hsz)
   have HS2:=Lib.hid (List.pairwise_iff_getElem.1 HS.out)
   by_cases hv:l[(p+q) / 2].1 - who<0
   ·go_wp2
    go_roundw
    case rel =>
     refine ⟨(p+q) / 2+1,q,by omega,by omega,by go_num,rfl,fun m h hm2=>?_,HHI.out,hb2⟩
     rcases (by omega:m<(p+q) / 2∨m=(p+q) / 2) with h3 | h3
     ·have:=HS2.out m ((p+q) / 2) h hm h3; omega
     ·subst h3; omega
    case measure=>simp [intOf]; omega
   ·go_wp2
    go_roundw
    case rel =>
     refine ⟨p,(p+q) / 2,by omega,by omega,rfl,by go_num,HLO.out,fun m h hm2=>?_,hb2⟩
     rcases (by omega:(p+q) / 2<m∨m=(p+q) / 2) with h3 | h3
     ·have:=HS2.out ((p+q) / 2) m hm h h3; omega
     ·subst h3; omega
    case measure=>simp [intOf]; omega
  ·obtain rfl:p=q:=by omega
   by_cases hn:p<l.length
   ·obtain ⟨b,o,rfl,hbs,h1,h2⟩:=hr p hn
    have c1:=(hbw.cell (p:=⟨b,o+p*2,none⟩) hbs).trans h1
    have c2:=(hbw.cell (p:=⟨b,o+p*2+1,none⟩) hbs).trans h2
    have hbd:=HB.out _ (List.getElem_mem hn)
    clear hr h1 h2
    go_wp2_with fail
    refine (with2_any _ _ who _ hbd HW.out).mono ?_
    rintro e w1 ⟨rfl,hb1⟩
    have hb2:=hbw.trans (hb1.mono hsz)
    go_wp2
    go_ret2
    exact ⟨p,_,rfl,by omega,HLO.out,HHI.out,hb2⟩
   ·go_wp2
    go_ret2
    exact ⟨p,_,rfl,by omega,HLO.out,HHI.out,hbw⟩
end Go.Proofs.YtajegiifabfcjaaGreatDoor

namespace Go.Proofs.YtajegiifabfcjaaGreatDoor
open Go.RowKit
theorem OwnP.lo {B:Nat} {w:World} {a:Option Addr} {n c:Nat} {l:List (Int × Int)} (h:OwnP B w (.slice a n c) l):∀ b o,a=some ⟨b,o,none⟩→B≤b:=by
 obtain ⟨_,h2⟩:=h
 rcases h2 with ⟨e1,_⟩ | ⟨g,cap',cur,e1,hg,_⟩
 ·simp at e1; intro b o hk; rw [e1.1] at hk; cases hk
 ·simp at e1; intro b o hk; rw [e1.1] at hk; simp at hk; omega
theorem Pairs.setCell {B:Nat} {w:World} {a:Option Addr} {l:List (Int × Int)} (h:Pairs B w a l) {p:Addr} (hp:∀ b o,a=some ⟨b,o,none⟩→b≠p.block) (u:Value):Pairs B (w.setCell p u) a l:=by
 intro i hi
 obtain ⟨b,o,rfl,hb,h1,h2⟩:=h i hi
 have hne:=hp b o rfl
 have hh:(w.setCell p u).heap[b]?=w.heap[b]?:=Below.heap_setCell _ _ _ _ hne
 exact ⟨b,o,rfl,hb,(World.cell?_of_block (w:=w) hh).trans h1,(World.cell?_of_block (w:=w) hh).trans h2⟩
theorem insert_any (l:List (Int × Int)) (a:Option Addr) (cap B i:Nat) (x y:Int) (T:TypeId) (w:World) (hl:l.length≤100) (hi:i≤l.length) (hr:OwnP B w (.slice a l.length cap) l) (hB:B≤w.heap.size) :
  Calls Tryz.prog 176 #[.slice a l.length cap,.int .i64 i,.slice (some ⟨w.heap.size,0,none⟩) 1 1] (w.alloc (.cells #[.int .i64 x,.int .i64 y] T)) fun e w'=>∃ v',e=.returned v'∧OwnP B w' v' (insertAt l i (x,y))∧Below B (w.alloc (.cells #[.int .i64 x,.int .i64 y] T)) w':=by
 have hr1:=hr.below (bal w (.cells #[.int .i64 x,.int .i64 y] T))
 have hB1:B≤(w.alloc (.cells #[.int .i64 x,.int .i64 y] T)).heap.size:=by simp; omega
 rcases (by omega:i=l.length∨i<l.length) with rfl | hlt
 ·exact insert_end l a cap B x y w.heap.size 1 _ hl hr1 hB1 (by simp) (by simp)
 ·obtain ⟨h1,h2⟩:=hr
  rcases h2 with ⟨_,h0⟩ | ⟨g,cap',cur,e1,hgB,hgh,hnc,hcm,hcs,ht⟩
  ·omega
  ·obtain ⟨rfl,rfl⟩:a=some ⟨g,0,none⟩∧cap=cap':=by simpa using e1
   have hglt:g<w.heap.size:=(Array.getElem?_eq_some_iff.1 hgh).1
   have hgh1:(w.alloc (.cells #[.int .i64 x,.int .i64 y] T)).heap[g]?=some (.cells cur 118 (0,0)):=by rw [Below.heap_alloc w _ _ hglt]; exact hgh
   rcases (by omega:l.length+1≤cap∨cap=l.length) with hroom | rfl
   ·exact insert_mid l g cap B i x y w.heap.size 1 T cur _ hl hlt hroom hcm hgB hgh1 hcs ht (heap_alloc_new _ _) (by omega)
   ·exact insert_grow l g B i x y w.heap.size 1 T cur _ hl hlt hB1 hgh1 hcs ht (heap_alloc_new _ _)
def ins (who key:Int):List (Int × Int)→List (Int × Int)
 | []=>[(who,key)]
 | r :: l=>if r.1<who then r :: ins who key l else (who,key) :: r :: l
def withL (l:List (Int × Int)) (who key:Int):List (Int × Int):=if 0<key then ins who key (without who l) else without who l
theorem insertAt_ins (who key:Int):∀ (l:List (Int × Int)) (i:Nat),i≤l.length→(∀ j (h:j<l.length),j<i→l[j].1<who)→(∀ j (h:j<l.length),i≤j→who≤l[j].1)→insertAt l i (who,key)=ins who key l
 | [],i,hi,_,_=>by
  have:i=0:=by simpa using hi
  subst this; rfl
 | r :: l,0,_,_,h2=>by
  have:=h2 0 (by simp) (by omega)
  simp at this
  unfold ins
  rw [if_neg (by omega)]; rfl
 | r :: l,i+1,hi,h1,h2=>by
  have:=h1 0 (by simp) (by omega)
  simp at this
  unfold ins
  rw [if_pos this,← insertAt_ins who key l i (by simpa using hi) (fun j h hj=>by have:=h1 (j+1) (by simp; omega) (by omega); simpa using this) (fun j h hj=>by have:=h2 (j+1) (by simp; omega) (by omega); simpa using this)]
  rfl
def St.withRegs (s:St) (l:List (Int × Int)):St:=⟨s.gen,l,s.typ,s.holder,s.stays⟩
theorem without_len (who:Int) (l:List (Int × Int)):(without who l).length≤l.length:=List.length_filter_le _ _
theorem ins_len (who key:Int):∀ l:List (Int × Int),(ins who key l).length=l.length+1
 | []=>rfl
 | r :: l=>by unfold ins; split <;> simp [ins_len who key l]
set_option maxHeartbeats 2000000 in
set_option maxRecDepth 100000 in
theorem with_lo (s:St) (a:Option Addr) (cap:Nat) (who key:Int) (w:World) (hr:StR w s a) (hl:s.regs.length≤50) (hw:0≤who∧who≤1000) (hb:∀ r∈s.regs,0≤r.1∧r.1≤1000) (hs:s.regs.Pairwise (fun a b=>a.1<b.1)) :
  Calls Tryz.prog 148 #[stV s a cap,.int .i64 who,.int .i64 key] w fun e w'=>∃ a' cap',e=.returned (stV (s.withRegs (withL s.regs who key)) a' cap')∧StR w' (s.withRegs (withL s.regs who key)) a'∧Below w.heap.size w w'∧(∀ b o,a'=some ⟨b,o,none⟩→w.heap.size≤b):=by
 obtain ⟨g,l,t,h,st⟩:=s
 dsimp only at hl hb hs
 obtain ⟨_,hp⟩:=hr
 dsimp only at hp
 have hp1:∀ o,Pairs (w.alloc o).heap.size (w.alloc o) a l:=fun o=>(hp.below (bal w o) (Nat.le_refl _)).mono (by simp)
 have hp2:∀ o1 o2,Pairs ((w.alloc o1).alloc o2).heap.size ((w.alloc o1).alloc o2) a l:=fun o1 o2=>((hp1 o1).below (bal _ o2) (Nat.le_refl _)).mono (by simp)
 have hp3:∀ o1 o2 o3,Pairs (((w.alloc o1).alloc o2).alloc o3).heap.size (((w.alloc o1).alloc o2).alloc o3) a l:=fun o1 o2 o3=>((hp2 o1 o2).below (bal _ o3) (Nat.le_refl _)).mono (by simp)
 have HB:=Lib.hid hb
 have HS:=Lib.hid hs
 clear hb hs hp hp1 hp2
 go_enter Tryz.func148,Tryz.ntmps148
 go_wp2_with fail
 refine (clone_reg l a cap _ (by omega) (hp3 _ _ _)).mono ?_
 rintro e w1 ⟨v1,rfl,own1,b1⟩
 obtain ⟨hc,hf⟩:=bcell b1
 have cw:w1.cell? ⟨w.heap.size+1,0,none⟩=some (.int .i64 who):=by
  have:=(b1.block (w.heap.size+1) (by simp)).trans (heap3 w _ _ _).2.1
  simp [World.cell?,this]
 go_wp2_with fail
 refine (deletefunc_any l v1 _ who (w.heap.size+1) 0 w1 (by unfold maxLen; omega) own1 cw (by simp) (b1.size)).mono ?_
 rintro e w2 ⟨v2,rfl,own2,h2⟩
 have b2:=b1.trans h2
 clear hc hf own1
 obtain ⟨hc,hf⟩:=bcell b2
 have b02:Below w.heap.size w w2:=bover (bover (bover b2 (by simp)) (by simp)) (by simp)
 obtain ⟨a2,c2,rfl,pr2,_⟩:=own2.shape
 have hdl:=without_len who l
 by_cases hk:0<key
 ·have hwl:withL l who key=ins who key (without who l):=by unfold withL; rw [if_pos hk]
  have HWL:=Lib.hid hwl
  clear hwl
  have HOWN:=Lib.hid own2
  have hbb:∀ r∈without who l,0≤r.1∧r.1≤1000:=fun r hr'=>HB.out r ((List.mem_filter.1 hr').1)
  have hss:(without who l).Pairwise (fun a b=>a.1<b.1):=HS.out.sublist List.filter_sublist
  have HBB:=Lib.hid hbb
  have HSS:=Lib.hid hss
  clear hbb hss
  go_wp2_with fail
  refine (binsearch_any (without who l) a2 c2 who w2 (by omega) pr2 hw HBB.out HSS.out).mono ?_
  rintro e w3 ⟨i,f,rfl,hi,q1,q2,h3⟩
  have hins:insertAt (without who l) i (who,key)=ins who key (without who l):=insertAt_ins who key _ i hi q1 q2
  have HINS:=Lib.hid hins
  clear hins q1 q2
  have b3:=b2.trans (h3.mono b2.size)
  clear hc hf
  obtain ⟨hc,hf⟩:=bcell b3
  go_wp2_with fail
  refine (insert_any (without who l) a2 c2 _ i who key _ w3 (by omega) hi (HOWN.out.below h3) b3.size).mono ?_
  rintro e w4 ⟨v4,rfl,own4,h4⟩
  have b4:=b3.trans ((bal w3 _).mono b3.size) |>.trans h4
  clear hc hf
  obtain ⟨hc,hf⟩:=bcell b4
  rw [HINS.out] at own4
  have hsz4:=b4.size
  obtain ⟨a4,c4,rfl,pr4,_⟩:=own4.shape
  obtain ⟨⟨e0,e1,e2,e3,e4⟩,f0,f1,f2,f3,f4⟩:=box5 b4 (b:=w.heap.size) (by simp; omega) (heap3 w _ _ _).1
  obtain ⟨⟨g0,g1,g2,g3,g4⟩,k0,k1,k2,k3,k4⟩:=box5 b4 (b:=w.heap.size+1+1) (by simp) (heap3 w _ _ _).2.2
  clear hc hf
  go_wp2
  rw [HWL.out]
  refine bodyPost_ret (v:=stV ⟨g,ins who key (without who l),t,h,st⟩ a4 c4) (by simp [results,Tryz.results148,go_sem,g0,g1,g2,g3,g4]) rfl ⟨a4,c4,rfl,⟨?_,?_⟩,?_,?_⟩
  ·show (ins who key (without who l)).length≤maxLen; rw [ins_len]; unfold maxLen; omega
  ·have lo:=own4.lo
   simp only [World.size_alloc] at lo
   have hn:∀ q:Nat,q<w.heap.size+1+1+1→∀ b o,a4=some ⟨b,o,none⟩→b≠q:=fun q hq b o e=>by have:=lo b o e; omega
   refine (?_:Pairs w4.heap.size _ _ _).mono (by simp [World.setCell])
   iterate 6 (with_reducible refine Pairs.setCell ?_ (hn _ (by dsimp only; omega)) _)
   exact pr4
  ·exact ((((((bover (bover (bover b4 (by simp)) (by simp)) (by simp)).setCell (Nat.le_refl _) _).setCell (by show w.heap.size≤w.heap.size+1+1; omega) _).setCell (by show w.heap.size≤w.heap.size+1+1; omega) _).setCell (by show w.heap.size≤w.heap.size+1+1; omega) _).setCell (by show w.heap.size≤w.heap.size+1+1; omega) _).setCell (by show w.heap.size≤w.heap.size+1+1; omega) _
  ·have lo:=own4.lo
   simp only [World.size_alloc] at lo
   intro b o e
   have:=lo b o e
   omega
 ·have hwl:withL l who key=without who l:=by unfold withL; rw [if_neg hk]
  have HWL:=Lib.hid hwl
  clear hwl
  obtain ⟨⟨e0,e1,e2,e3,e4⟩,f0,f1,f2,f3,f4⟩:=box5 b2 (b:=w.heap.size) (by simp; omega) (heap3 w _ _ _).1
  obtain ⟨⟨g0,g1,g2,g3,g4⟩,k0,k1,k2,k3,k4⟩:=box5 b2 (b:=w.heap.size+1+1) (by simp) (heap3 w _ _ _).2.2
  clear hc hf
  go_wp2
  rw [HWL.out]
  refine bodyPost_ret (v:=stV ⟨g,without who l,t,h,st⟩ a2 c2) (by simp [results,Tryz.results148,go_sem,g0,g1,g2,g3,g4]) rfl ⟨a2,c2,rfl,⟨?_,?_⟩,?_,?_⟩
  ·show (without who l).length≤maxLen; unfold maxLen; omega
  ·have lo:=own2.lo
   simp only [World.size_alloc] at lo
   have hn:∀ q:Nat,q<w.heap.size+1+1+1→∀ b o,a2=some ⟨b,o,none⟩→b≠q:=fun q hq b o e=>by have:=lo b o e; omega
   refine (?_:Pairs w2.heap.size _ _ _).mono (by simp [World.setCell])
   iterate 6 (with_reducible refine Pairs.setCell ?_ (hn _ (by dsimp only; omega)) _)
   exact pr2
  ·exact ((((((bover (bover (bover b2 (by simp)) (by simp)) (by simp)).setCell (Nat.le_refl _) _).setCell (by show w.heap.size≤w.heap.size+1+1; omega) _).setCell (by show w.heap.size≤w.heap.size+1+1; omega) _).setCell (by show w.heap.size≤w.heap.size+1+1; omega) _).setCell (by show w.heap.size≤w.heap.size+1+1; omega) _).setCell (by show w.heap.size≤w.heap.size+1+1; omega) _
  ·have lo:=own2.lo
   simp only [World.size_alloc] at lo
   intro b o e
   have:=lo b o e
   omega
end Go.Proofs.YtajegiifabfcjaaGreatDoor

namespace Go.Proofs.YtajegiifabfcjaaGreatDoor
open Go.RowKit
theorem keyOf_absent (who:Int):∀ l:List (Int × Int),(∀ r∈l,r.1≠who)→keyOf l who=0
 | [],_=>rfl
 | r :: l,h=>by
  unfold keyOf
  rw [if_neg (h r (by simp))]
  exact keyOf_absent who l (fun x hx=>h x (by simp [hx]))
theorem without_mem (who:Int) (l:List (Int × Int)):∀ r∈without who l,r∈l∧r.1≠who:=by
 intro r hr
 simpa [without] using hr
theorem keyOf_without_self (who:Int) (l:List (Int × Int)):keyOf (without who l) who=0:=keyOf_absent who _ (fun r hr=>(without_mem who l r hr).2)
theorem keyOf_without (who o:Int) (h:o≠who):∀ l:List (Int × Int),keyOf (without who l) o=keyOf l o
 | []=>rfl
 | r :: l=>by
  have ih:=keyOf_without who o h l
  unfold without at ih ⊢
  by_cases e:r.1=who
  ·rw [List.filter_cons_of_neg (by simp [e]),ih]
   conv=>rhs; unfold keyOf
   rw [if_neg (by omega)]
  ·rw [List.filter_cons_of_pos (by simp [e])]
   unfold keyOf
   rw [ih]
theorem ins_eq (who key:Int) (r:Int × Int) (l:List (Int × Int)):ins who key (r :: l)=if who≤r.1 then (who,key) :: r :: l else r :: ins who key l:=by
 by_cases h:who≤r.1
 ·rw [if_pos h]; unfold ins; rw [if_neg (by omega)]
 ·rw [if_neg h]; conv=>lhs; unfold ins
  rw [if_pos (by omega)]
theorem keyOf_ins_self (who key:Int):∀ l:List (Int × Int),(∀ r∈l,r.1≠who)→keyOf (ins who key l) who=key
 | [],_=>by simp [ins,keyOf]
 | r :: l,h=>by
  rw [ins_eq]
  split
  ·simp [keyOf]
  ·unfold keyOf
   rw [if_neg (h r (by simp))]
   exact keyOf_ins_self who key l (fun x hx=>h x (by simp [hx]))
theorem keyOf_ins (who key o:Int) (h:o≠who):∀ l:List (Int × Int),keyOf (ins who key l) o=keyOf l o
 | []=>by simp [ins,keyOf]; omega
 | r :: l=>by
  rw [ins_eq]
  split
  ·conv=>lhs; unfold keyOf
   rw [if_neg (by simp; omega)]
  ·unfold keyOf
   rw [keyOf_ins who key o h l]
theorem keyOf_with_self (l:List (Int × Int)) (who key:Int) (hk:0≤key):keyOf (withL l who key) who=key:=by
 unfold withL
 split
 ·exact keyOf_ins_self who key _ (fun r hr=>(without_mem who l r hr).2)
 ·rw [keyOf_without_self]; omega
theorem keyOf_with (l:List (Int × Int)) (who key o:Int) (h:o≠who):keyOf (withL l who key) o=keyOf l o:=by
 unfold withL
 split
 ·rw [keyOf_ins who key o h,keyOf_without who o h]
 ·exact keyOf_without who o h l
theorem without_ins (who key:Int):∀ l:List (Int × Int),without who (ins who key l)=without who l
 | []=>by simp [ins,without]
 | r :: l=>by
  rw [ins_eq]
  split
  ·simp [without]
  ·have ih:=without_ins who key l
   unfold without at ih ⊢
   rw [List.filter_cons,List.filter_cons,ih]
theorem without_twice (who:Int) (l:List (Int × Int)):without who (without who l)=without who l:=without_all who _ (fun r hr=>(without_mem who l r hr).2)
theorem without_with (l:List (Int × Int)) (who key:Int):without who (withL l who key)=without who l:=by
 unfold withL
 split
 ·rw [without_ins,without_twice]
 ·exact without_twice who l
theorem others_with (l:List (Int × Int)) (who key:Int):othersL who (withL l who key)=othersL who l:=by
 unfold othersL; rw [without_with]
theorem keyOf_nonneg (who:Int):∀ l:List (Int × Int),(∀ r∈l,1≤r.2)→0≤keyOf l who
 | [],_=>by simp [keyOf]
 | r :: l,h=>by
  unfold keyOf
  split
  ·have:=h r (by simp); omega
  ·exact keyOf_nonneg who l (fun x hx=>h x (by simp [hx]))
theorem keyOf_mem (who:Int):∀ l:List (Int × Int),keyOf l who≠0→∃ r∈l,r.1=who∧r.2=keyOf l who
 | [],h=>absurd rfl h
 | r :: l,h=>by
  unfold keyOf at h ⊢
  by_cases e:r.1=who
  ·rw [if_pos e]; exact ⟨r,by simp,e,rfl⟩
  ·rw [if_neg e] at h ⊢
   obtain ⟨x,hx,h1,h2⟩:=keyOf_mem who l h
   exact ⟨x,by simp [hx],h1,h2⟩
theorem keyOf_of_mem:∀ (l:List (Int × Int)),(∀ r∈l,1≤r.2)→∀ r∈l,keyOf l r.1≠0
 | x :: l,hb,r,hr=>by
  unfold keyOf
  split
  ·have:=hb x (by simp); omega
  ·rename_i hne
   rcases List.mem_cons.1 hr with rfl | hr
   ·exact absurd rfl hne
   ·exact keyOf_of_mem l (fun y hy=>hb y (by simp [hy])) r hr
theorem mem_ins (who key:Int):∀ (l:List (Int × Int)) (r:Int × Int),r∈ins who key l→r=(who,key)∨r∈l
 | [],r,h=>by simpa [ins] using h
 | x :: l,r,h=>by
  rw [ins_eq] at h
  split at h
  ·rcases List.mem_cons.1 h with h | h
   ·exact .inl h
   ·exact .inr h
  ·rcases List.mem_cons.1 h with rfl | h
   ·exact .inr (by simp)
   ·rcases mem_ins who key l r h with h | h
    ·exact .inl h
    ·exact .inr (by simp [h])
theorem mem_with {l:List (Int × Int)} {who key:Int} {r:Int × Int} (h:r∈withL l who key):(r=(who,key)∧0<key)∨(r∈l∧r.1≠who):=by
 unfold withL at h
 split at h
 ·rcases mem_ins who key _ r h with h | h
  ·exact .inl ⟨h,by assumption⟩
  ·exact .inr (without_mem who l r h)
 ·exact .inr (without_mem who l r h)
theorem sorted_without {l:List (Int × Int)} (who:Int) (hp:l.Pairwise (fun a b=>a.1<b.1)):(without who l).Pairwise (fun a b=>a.1<b.1):=hp.filter _
theorem sorted_ins (who key:Int):∀ l:List (Int × Int),l.Pairwise (fun a b=>a.1<b.1)→(∀ r∈l,r.1≠who)→(ins who key l).Pairwise (fun a b=>a.1<b.1)
 | [],_,_=>by simp [ins]
 | x :: l,hp,hn=>by
  have hp0:=hp
  rw [List.pairwise_cons] at hp
  have hx:=hn x (by simp)
  rw [ins_eq]
  split
  ·rw [List.pairwise_cons]
   refine ⟨fun b hb=>?_,hp0⟩
   rcases List.mem_cons.1 hb with rfl | hb
   ·show who<_; omega
   ·have:=hp.1 b hb; show who<_; omega
  ·rw [List.pairwise_cons]
   refine ⟨fun b hb=>?_,sorted_ins who key l hp.2 (fun r hr=>hn r (by simp [hr]))⟩
   rcases mem_ins who key l b hb with rfl | hb
   ·show x.1<who; omega
   ·exact hp.1 b hb
theorem sorted_with {l:List (Int × Int)} (who key:Int) (hp:l.Pairwise (fun a b=>a.1<b.1)):(withL l who key).Pairwise (fun a b=>a.1<b.1):=by
 unfold withL
 split
 ·exact sorted_ins who key _ (sorted_without who hp) (fun r hr=>(without_mem who l r hr).2)
 ·exact sorted_without who hp
theorem with_len (l:List (Int × Int)) (who key:Int):(withL l who key).length≤l.length+1:=by
 unfold withL
 split
 ·rw [ins_len]; have:=without_len who l; omega
 ·have:=without_len who l; omega
theorem others_mem {who:Int} {l:List (Int × Int)} {x:Int} (h:x∈othersL who l):x≠who∧∃ r∈l,r.1=x:=by
 unfold othersL at h
 obtain ⟨r,hr,rfl⟩:=List.mem_map.1 h
 obtain ⟨h1,h2⟩:=without_mem who l r hr
 exact ⟨h2,r,h1,rfl⟩
theorem others_sorted {who:Int} {l:List (Int × Int)} (hp:l.Pairwise (fun a b=>a.1<b.1)):(othersL who l).Pairwise (·<·):=by
 unfold othersL
 exact List.pairwise_map.2 (sorted_without who hp)
end Go.Proofs.YtajegiifabfcjaaGreatDoor

namespace Go.Proofs.YtajegiifabfcjaaGreatDoor
open Go.RowKit
def St.zero:St:=⟨0,[],0,0,false⟩
def St.free (s:St):St:=⟨s.gen,s.regs,0,0,s.stays⟩
def St.take (s:St) (kind who:Int):St:=⟨s.gen,s.regs,kind,if allT kind then 0 else who,s.stays⟩
def St.withStays (s:St) (b:Bool):St:=⟨s.gen,s.regs,s.typ,s.holder,b⟩
def St.next (s:St):St:=⟨if 1000000000<s.gen+1 then 0 else s.gen+1,s.regs,s.typ,s.holder,s.stays⟩
def toldL (l:List Int) (what:Int):List (Int × Int):=l.map fun w=>(w,what)
def pregister (s:St) (c:Cmd):St × List (Int × Int) :=
 let t:=(s.withRegs (withL s.regs c.who c.new)).withStays c.stays
 if 0<c.new∨holds s c.who=false then (t,[])
 else if allT s.typ=true∧0<t.regs.length then (t,[])
 else if s.typ=5∨s.typ=6 then (t.free,toldL (othersL c.who t.regs) 2)
 else (t.free,[])
def preserve (s:St) (c:Cmd):St × Int :=
 if 0<s.typ then (if holds s c.who=true∧s.typ=c.typ then (s,0) else (s,4))
 else (s.take c.typ c.who,0)
def prelease (s:St) (c:Cmd):St × List (Int × Int) × Int :=
 if holds s c.who=false then (s,[],0)
 else if s.typ≠c.typ then (s,[],5)
 else if 5≤s.typ then (s.free,toldL (othersL c.who s.regs) 2,0)
 else (s.free,[],0)
def outB (who key:Int) (r:Int × Int):Bool:=decide (r.1≠who∧(key=0∨r.2=key))
def goneL (who key:Int) (l:List (Int × Int)):List Int:=(l.filter (outB who key)).map (·.1)
def putOut (l:List (Int × Int)) (gone:List Int):List (Int × Int):=gone.foldl (fun l w=>withL l w 0) l
def ptakes (s:St) (c:Cmd):Bool:=(allT s.typ && decide (c.new=0)) || (decide (0<s.typ) && !allT s.typ && decide (keyOf s.regs s.holder=c.new))
def ppreempt (s:St) (c:Cmd):St × List (Int × Int) × Int :=
 if c.new=0∧ptakes s c=false then (s,[],5)
 else
  let gone:=goneL c.who c.new s.regs
  let t:=s.withRegs (putOut s.regs gone)
  if ptakes s c=false then
   if gone.length=0∧keyOf s.regs c.who≠c.new then (s,[],4) else (t,toldL gone 1,0)
  else (t.free.take c.typ c.who,toldL gone 1 ++ (if s.typ≠c.typ then toldL (othersL c.who t.regs) 2 else []),0)
def pknown (s:St) (c:Cmd):Bool:=decide (0<c.key) && decide (keyOf s.regs c.who=c.key)
def pacts (s:St) (c:Cmd):St × List (Int × Int) × Int :=
 if c.op=1∨c.op=2 then ((pregister s c).1,(pregister s c).2,0)
 else if c.op=3 then ((preserve s c).1,[],(preserve s c).2)
 else if c.op=4 then prelease s c
 else if c.op=5 then ((s.free.withRegs []),toldL (othersL c.who s.regs) 3,0)
 else if c.op=6 then ppreempt s c
 else (s,[],0)
def pdo (s:St) (c:Cmd):St × List (Int × Int) × Int :=
 if 6<c.op then (St.zero,[],2)
 else if (c.op=1∧keyOf s.regs c.who≠c.key)∨(2<c.op∧pknown s c=false) then (St.zero,[],4)
 else if (pacts s c).2.2≠0 then (St.zero,[],(pacts s c).2.2)
 else if c.op≠3∧c.op≠4 then ((pacts s c).1.next,(pacts s c).2.1,0) else ((pacts s c).1,(pacts s c).2.1,0)
theorem allT_ge {n:Int} (h:n=0∨typeMay n=true):allT n=decide (7≤n):=by
 unfold allT
 rcases h with rfl | h
 ·rfl
 ·simp [typeMay] at h
  rw [Bool.eq_iff_iff]; simp; omega
theorem putOut_filter:∀ (gone:List Int) (l:List (Int × Int)),putOut l gone=l.filter (fun r=>!gone.contains r.1)
 | [],l=>by show l=_; rw [List.filter_eq_self.2 (by simp)]
 | w :: gone,l=>by
  have ih:=putOut_filter gone (withL l w 0)
  have e:putOut l (w :: gone)=putOut (withL l w 0) gone:=rfl
  rw [e,ih]
  unfold withL
  rw [if_neg (by omega)]
  unfold without
  rw [List.filter_filter]
  congr 1
  funext r
  by_cases h:r.1=w <;> simp [h]
theorem sorted_inj {l:List (Int × Int)} (hp:l.Pairwise (fun a b=>a.1<b.1)) {a b:Int × Int} (ha:a∈l) (hb:b∈l) (h:a.1=b.1):a=b:=by
 induction l with
 | nil=>cases ha
 | cons x l ih =>
  rw [List.pairwise_cons] at hp
  rcases List.mem_cons.1 ha with rfl | ha'
  ·rcases List.mem_cons.1 hb with rfl | hb'
   ·rfl
   ·have:=hp.1 b hb'; omega
  ·rcases List.mem_cons.1 hb with rfl | hb'
   ·have:=hp.1 a ha'; omega
   ·exact ih hp.2 ha' hb'
theorem gone_contains {l:List (Int × Int)} (hp:l.Pairwise (fun a b=>a.1<b.1)) (who key:Int) {r:Int × Int} (hr:r∈l):(goneL who key l).contains r.1=outB who key r:=by
 rw [Bool.eq_iff_iff,List.contains_iff_mem]
 unfold goneL
 rw [List.mem_map]
 constructor
 ·rintro ⟨x,hx,e⟩
  obtain ⟨h1,h2⟩:=List.mem_filter.1 hx
  rw [sorted_inj hp hr h1 e.symm]; exact h2
 ·intro h
  exact ⟨r,List.mem_filter.2 ⟨hr,h⟩,rfl⟩
theorem putOut_gone {l:List (Int × Int)} (hp:l.Pairwise (fun a b=>a.1<b.1)) (who key:Int):putOut l (goneL who key l)=l.filter (fun r=>!outB who key r):=by
 rw [putOut_filter]
 apply List.filter_congr
 intro r hr
 rw [gone_contains hp who key hr]
structure CmdOk (c:Cmd):Prop where
 op:1≤c.op∧c.op≤9
 who:1≤c.who∧c.who≤4
 key:0≤c.key∧c.key≤999
 new:0≤c.new∧c.new≤999
 typ:c.op=3∨c.op=4∨c.op=6→typeMay c.typ=true
theorem typ_or {s:St} (g:Good s):s.typ=0∨typeMay s.typ=true:=by
 by_cases h:s.typ=0
 ·exact .inl h
 ·exact .inr (g.typ h)
end Go.Proofs.YtajegiifabfcjaaGreatDoor

namespace Go.Proofs.YtajegiifabfcjaaGreatDoor
open Go.RowKit
theorem holds_any (s:St) (a:Option Addr) (cap:Nat) (who:Int) (w:World) (hr:StR w s a) :
  Calls Tryz.prog 64 #[stV s a cap,.int .i64 who] w fun e w'=>e=.returned (.bool (holds s who))∧Below w.heap.size w w':=by
 have hr1:∀ o,StR (w.alloc o) s a:=fun o=>hr.below (bal w o)
 by_cases ht:s.typ=7∨s.typ=8
 ·have ha:allT s.typ=true:=by simp [allT,ht]
  have hh:holds s who=decide (0<keyOf s.regs who):=by simp [holds,ht]
  rw [hh]
  clear ht hh
  go_enter Tryz.func64,Tryz.ntmps64
  go_wp2_with fail
  refine (all_any s a cap _).mono ?_
  rintro e w1 ⟨rfl,hb1⟩
  obtain ⟨hc,hf⟩:=bcell hb1
  have hr2:=(hr1 _).below hb1
  go_wp2_with fail
  refine (key_any s a cap who _ hr2).mono ?_
  rintro e w2 ⟨rfl,hb2⟩
  go_wp2
  go_ret
  exact ⟨rfl,(bover hb1 (by simp)).trans (hb2.mono (by have:=bsz hb1; omega))⟩
 ·have ha:allT s.typ=false:=by simp [allT,ht]
  have hh:holds s who=decide (0<s.typ∧s.holder=who):=by simp [holds,ht]
  rw [hh]
  clear ht hh
  by_cases hz:0<s.typ
  ·by_cases hw:s.holder=who
   ·subst hw
    go_enter Tryz.func64,Tryz.ntmps64
    go_wp2_with fail
    refine (all_any s a cap _).mono ?_
    rintro e w1 ⟨rfl,hb1⟩
    obtain ⟨hc,hf⟩:=bcell hb1
    go_wp2
    go_ret
    exact ⟨ret_bool (by simp [hz]),bover hb1 (by simp)⟩
   ·have hw':(s.holder == who)=false:=by simpa using hw
    go_enter Tryz.func64,Tryz.ntmps64
    go_wp2_with fail
    refine (all_any s a cap _).mono ?_
    rintro e w1 ⟨rfl,hb1⟩
    obtain ⟨hc,hf⟩:=bcell hb1
    go_wp2
    go_ret
    exact ⟨ret_bool (by simp [hw]),bover hb1 (by simp)⟩
  ·go_enter Tryz.func64,Tryz.ntmps64
   go_wp2_with fail
   refine (all_any s a cap _).mono ?_
   rintro e w1 ⟨rfl,hb1⟩
   obtain ⟨hc,hf⟩:=bcell hb1
   go_wp2
   go_ret
   exact ⟨ret_bool (by simp; omega),bover hb1 (by simp)⟩
theorem known_any (s:St) (a:Option Addr) (cap:Nat) (w:World) :
  Calls Tryz.prog 65 #[stV s a cap] w fun e w'=>e=.returned (.bool (knownT s.typ))∧Below w.heap.size w w':=by
 obtain ⟨g,l,t,h,st⟩:=s
 go_enter Tryz.func65,Tryz.ntmps65
 go_wp2
 go_ret
 exact ⟨rfl,bal w _⟩
theorem writes_any (s:St) (a:Option Addr) (cap:Nat) (w:World) :
  Calls Tryz.prog 66 #[stV s a cap] w fun e w'=>e=.returned (.bool (writesT s.typ))∧Below w.heap.size w w':=by
 obtain ⟨g,l,t,h,st⟩:=s
 dsimp only
 by_cases h1:t=1
 ·subst h1
  go_enter Tryz.func66,Tryz.ntmps66
  go_wp2
  go_ret
  exact ⟨rfl,bal w _⟩
 by_cases h5:t=5
 ·subst h5
  go_enter Tryz.func66,Tryz.ntmps66
  go_wp2
  go_ret
  exact ⟨rfl,bal w _⟩
 by_cases h7:t=7
 ·subst h7
  go_enter Tryz.func66,Tryz.ntmps66
  go_wp2
  go_ret
  exact ⟨rfl,bal w _⟩
 go_enter Tryz.func66,Tryz.ntmps66
 go_wp2
 go_ret
 exact ⟨ret_bool (by simp [writesT,h1,h5,h7]),bal w _⟩
theorem may_any (s:St) (a:Option Addr) (cap:Nat) (who:Int) (wr:Bool) (w:World) (hr:StR w s a) :
  Calls Tryz.prog 32 #[stV s a cap,.int .i64 who,.bool wr] w fun e w'=>e=.returned (.bool (pmay s who wr))∧Below w.heap.size w w':=by
 have hr1:∀ o,StR (w.alloc o) s a:=fun o=>hr.below (bal w o)
 by_cases h0:s.typ=0
 ·have hp:pmay s who wr=true:=by simp [pmay,h0]
  rw [hp]
  clear hp
  go_enter Tryz.func32,Tryz.ntmps32
  go_wp2
  go_ret
  exact ⟨rfl,bal w _⟩
 have h0':(s.typ == 0)=false:=by simpa using h0
 have hp0:pmay s who wr=if holds s who=true then true else if 5≤s.typ∧0<keyOf s.regs who then true else !wr && writesT s.typ:=by simp [pmay,h0]
 rw [hp0]
 clear hp0 h0
 by_cases hh:holds s who=true
 ·rw [if_pos hh]
  go_enter Tryz.func32,Tryz.ntmps32
  go_wp2_with fail
  refine (holds_any s a cap who _ (hr1 _)).mono ?_
  rintro e w1 ⟨rfl,hb1⟩
  obtain ⟨hc,hf⟩:=bcell hb1
  go_wp2
  go_ret
  exact ⟨rfl,bover hb1 (by simp)⟩
 have hh':holds s who=false:=by simpa using hh
 rw [if_neg hh]
 clear hh
 by_cases h5:5≤s.typ
 ·have hk:knownT s.typ=true:=by simp [knownT,h5]
  by_cases hq:0<keyOf s.regs who
  ·rw [if_pos ⟨h5,hq⟩]
   have hq':decide (0<keyOf s.regs who)=true:=by simpa using hq
   go_enter Tryz.func32,Tryz.ntmps32
   go_wp2_with fail
   refine (holds_any s a cap who _ (hr1 _)).mono ?_
   rintro e w1 ⟨rfl,hb1⟩
   obtain ⟨hc,hf⟩:=bcell hb1
   have hr2:=(hr1 _).below hb1
   go_wp2_with fail
   refine (known_any s a cap _).mono ?_
   rintro e w2 ⟨rfl,hb2⟩
   have hb12:=hb1.trans (hb2.mono (hb1.size))
   obtain ⟨hc',hf'⟩:=bcell hb12
   have hr3:=(hr1 _).below hb12
   clear hc hf
   go_wp2_with fail
   refine (key_any s a cap who _ hr3).mono ?_
   rintro e w3 ⟨rfl,hb3⟩
   go_wp2
   go_ret
   exact ⟨rfl,(bover hb12 (by simp)).trans (hb3.mono (by have:=bsz hb12; omega))⟩
  ·rw [if_neg (fun h=>hq h.2)]
   have hq':decide (0<keyOf s.regs who)=false:=by simpa using hq
   go_enter Tryz.func32,Tryz.ntmps32
   go_wp2_with fail
   refine (holds_any s a cap who _ (hr1 _)).mono ?_
   rintro e w1 ⟨rfl,hb1⟩
   obtain ⟨hc,hf⟩:=bcell hb1
   have hr2:=(hr1 _).below hb1
   go_wp2_with fail
   refine (known_any s a cap _).mono ?_
   rintro e w2 ⟨rfl,hb2⟩
   have hb12:=hb1.trans (hb2.mono (hb1.size))
   obtain ⟨hc',hf'⟩:=bcell hb12
   have hr3:=(hr1 _).below hb12
   clear hc hf
   go_wp2_with fail
   refine (key_any s a cap who _ hr3).mono ?_
   rintro e w3 ⟨rfl,hb3⟩
   have hb13:=hb12.trans (hb3.mono (hb12.size))
   obtain ⟨hc,hf⟩:=bcell hb13
   clear hc' hf'
   cases wr
   ·go_wp2_with fail
    refine (writes_any s a cap _).mono ?_
    rintro e w4 ⟨rfl,hb4⟩
    go_wp2
    go_ret
    exact ⟨rfl,(bover hb13 (by simp)).trans (hb4.mono (by have:=bsz hb13; omega))⟩
   ·go_wp2
    go_ret
    exact ⟨rfl,bover hb13 (by simp)⟩
 ·rw [if_neg (fun h=>h5 h.1)]
  have hk:knownT s.typ=false:=by simp [knownT]; omega
  go_enter Tryz.func32,Tryz.ntmps32
  go_wp2_with fail
  refine (holds_any s a cap who _ (hr1 _)).mono ?_
  rintro e w1 ⟨rfl,hb1⟩
  obtain ⟨hc,hf⟩:=bcell hb1
  have hr2:=(hr1 _).below hb1
  go_wp2_with fail
  refine (known_any s a cap _).mono ?_
  rintro e w2 ⟨rfl,hb2⟩
  have hb12:=hb1.trans (hb2.mono (hb1.size))
  obtain ⟨hc',hf'⟩:=bcell hb12
  clear hc hf
  cases wr
  ·go_wp2_with fail
   refine (writes_any s a cap _).mono ?_
   rintro e w4 ⟨rfl,hb4⟩
   go_wp2
   go_ret
   exact ⟨rfl,(bover hb12 (by simp)).trans (hb4.mono (by have:=bsz hb12; omega))⟩
  ·go_wp2
   go_ret
   exact ⟨rfl,bover hb12 (by simp)⟩
end Go.Proofs.YtajegiifabfcjaaGreatDoor

namespace Go.Proofs.YtajegiifabfcjaaGreatDoor
open Go.RowKit
end Go.Proofs.YtajegiifabfcjaaGreatDoor

namespace Go.Proofs.YtajegiifabfcjaaGreatDoor
open Go.RowKit
end Go.Proofs.YtajegiifabfcjaaGreatDoor

namespace Go.Proofs.YtajegiifabfcjaaGreatDoor
open Go.RowKit
end Go.Proofs.YtajegiifabfcjaaGreatDoor

namespace Go.Proofs.YtajegiifabfcjaaGreatDoor
open Go.RowKit
def lessAt (m:St→Int→Bool→Bool) (s t:St) (who:Int) (b:Bool):Bool:=m s who b && !m t who b
def lessB (m:St→Int→Bool→Bool) (s t:St):Bool:=(List.range 4).any fun j=>lessAt m s t ((j:Int)+1) false || lessAt m s t ((j:Int)+1) true
theorem less_true {m:St→Int→Bool→Bool} {s t:St} {k:Nat} {b:Bool} (hk:k<4) (h:lessAt m s t ((k:Int)+1) b=true):lessB m s t=true:=by
 unfold lessB
 rw [List.any_eq_true]
 exact ⟨k,List.mem_range.2 hk,by cases b <;> rw [h] <;> simp⟩
theorem less_false {m:St→Int→Bool→Bool} {s t:St} (h:∀ j:Nat,j<4→∀ b,lessAt m s t ((j:Int)+1) b=false):lessB m s t=false:=by
 unfold lessB
 rw [List.any_eq_false]
 intro j hj
 rw [h j (List.mem_range.1 hj),h j (List.mem_range.1 hj)]
 decide
theorem less_step {m:St→Int→Bool→Bool} {s t:St} {k:Nat} (h:∀ j:Nat,j<k→∀ b,lessAt m s t ((j:Int)+1) b=false) (h0:lessAt m s t ((k:Int)+1) false=false) (h1:lessAt m s t ((k:Int)+1) true=false):∀ j:Nat,j<k+1→∀ b,lessAt m s t ((j:Int)+1) b=false:=by
 intro j hj b
 rcases (by omega:j<k∨j=k) with hj | rfl
 ·exact h j hj b
 ·cases b <;> assumption
theorem box5' {w:World} {b:Nat} {v0 v1 v2 v3 v4:Value} {T:TypeId} (h:w.heap[b]?=some (.cells #[v0,v1,v2,v3,v4] T (0,0))):w.cell? ⟨b,0,none⟩=some v0∧w.cell? ⟨b,1,none⟩=some v1∧w.cell? ⟨b,2,none⟩=some v2∧w.cell? ⟨b,3,none⟩=some v3∧w.cell? ⟨b,4,none⟩=some v4 :=
 (box5 (Below.refl (b+1) w) (by omega) h).1
set_option maxRecDepth 100000 in
set_option maxHeartbeats 2000000 in
theorem less_any (s t:St) (a b:Option Addr) (cap cbp:Nat) (w:World) (hs:StR w s a) (ht:StR w t b) :
  Calls Tryz.prog 95 #[stV s a cap,stV t b cbp,.func (.func 32) #[] #[]] w fun e w'=>e=.returned (.bool (lessB pmay s t))∧Below w.heap.size w w':=by
 have HS:=Lib.hid hs
 have HT:=Lib.hid ht
 clear hs ht
 go_enter Tryz.func95,Tryz.ntmps95
 go_wp2
 go_loopw [7] (fun i wr=>∃ k:Nat,k≤4∧i=.int .i64 ((k:Int)+1)∧(∀ j:Nat,j<k→∀ b,lessAt pmay s t ((j:Int)+1) b=false)∧Below ((w.alloc (.cells #[.int .i64 s.gen,.slice a s.regs.length cap,.int .i64 s.typ,.int .i64 s.holder,.bool s.stays] 35)).alloc (.cells #[.int .i64 t.gen,.slice b t.regs.length cbp,.int .i64 t.typ,.int .i64 t.holder,.bool t.stays] 35)).heap.size ((w.alloc (.cells #[.int .i64 s.gen,.slice a s.regs.length cap,.int .i64 s.typ,.int .i64 s.holder,.bool s.stays] 35)).alloc (.cells #[.int .i64 t.gen,.slice b t.regs.length cbp,.int .i64 t.typ,.int .i64 t.holder,.bool t.stays] 35)) wr) (fun i _=>(5 - intOf i).toNat)
 case atStart=>exact ⟨0,by omega,rfl,fun j hj=>by omega,Below.refl _ _⟩
 case round =>
  obtain ⟨k,hk,rfl,hN,hb⟩:=hrel
  have HN:=Lib.hid hN
  have HB:=Lib.hid hb
  have hz:w.heap.size+1<wr.heap.size:=by have:=hb.size; simp at this; omega
  have hz0:w.heap.size<wr.heap.size:=by omega
  have HBW:=Lib.hid (show Below w.heap.size w wr from ((bal w _).alloc (by simp) _).trans (hb.mono (by simp; omega)))
  have HA:=Lib.hid ((hb.block w.heap.size (by simp <;> omega)).trans (heap_alloc2_old w _ _))
  have HC:=Lib.hid ((hb.block (w.heap.size+1) (by simp <;> omega)).trans (heap_alloc2_new w _ _))
  clear hN hb
  by_cases h4:k<4
  ·have h4b:decide ((k:Int)+1≤4)=true:=by simp; omega
   go_wp2
   obtain ⟨wo,rfl⟩:∃ wo:World,wo=wr:=⟨_,rfl⟩
   go_loopw [16] (fun i wz=>∃ m:Nat,m≤2∧i=.int .i64 m∧((0<m→lessAt pmay s t ((k:Int)+1) false=false)∧(1<m→lessAt pmay s t ((k:Int)+1) true=false))∧Below (wo.alloc (.cells #[.bool false,.bool true] 4)).heap.size (wo.alloc (.cells #[.bool false,.bool true] 4)) wz) (fun i _=>(2 - intOf i).toNat)
   case atStart=>exact ⟨0,by omega,rfl,⟨fun h=>by omega,fun h=>by omega⟩,Below.refl _ _⟩
   case round =>
    obtain ⟨m,hm,rfl,hM,hi⟩:=hrel
    have HM:=Lib.hid hM
    have HI:=Lib.hid hi
    have hsz:wo.heap.size<wr.heap.size:=by have:=hi.size; simp at this; omega
    have hz1:w.heap.size+1<wr.heap.size:=by omega
    have hz2:w.heap.size<wr.heap.size:=by omega
    have HWR:=Lib.hid (show Below w.heap.size w wr from HBW.out.trans (((bal wo _).trans (hi.mono (bal wo _).size)).mono HBW.out.size))
    have HSW:=Lib.hid (HS.out.below HWR.out)
    have HTW:=Lib.hid (HT.out.below HWR.out)
    have HA5:=Lib.hid (((hi.block _ (by simp; omega)).trans ((bal wo _).block _ hz0)).trans HA.out)
    have HC5:=Lib.hid (((hi.block _ (by simp; omega)).trans ((bal wo _).block _ hz)).trans HC.out)
    have HF5:=Lib.hid ((hi.block wo.heap.size (by simp)).trans (heap_alloc_new wo _))
    clear hM hi
    obtain ⟨d0,d1,d2,d3,d4⟩:=box5' HA5.out
    obtain ⟨e0,e1,e2,e3,e4⟩:=box5' HC5.out
    have hf0:wr.cell? ⟨wo.heap.size,0,none⟩=some (.bool false):=by simp [World.cell?,HF5.out]
    have hf1:wr.cell? ⟨wo.heap.size,1,none⟩=some (.bool true):=by simp [World.cell?,HF5.out]
    rcases (by omega:m=0∨m=1∨m=2) with rfl | rfl | rfl
    ·skip
     have hpm:∃ p,pmay s ((k:Int)+1) false=p:=⟨_,rfl⟩
     obtain ⟨p,hp⟩:=hpm
     have HP:=Lib.hid hp
     clear hp
     go_wp2_with fail
     refine (may_any s a cap ((k:Int)+1) false _ HSW.out).mono ?_
     rintro e w5 ⟨rfl,b5⟩
     rw [HP.out]
     cases p
     ·have HX:=Lib.hid (show lessAt pmay s t ((k:Int)+1) false=false from by unfold lessAt; rw [HP.out]; rfl)
      have B5:=Lib.hid (HI.out.trans (b5.mono HI.out.size))
      clear b5
      go_wp2
      go_roundw
      case rel=>exact ⟨0+1,by omega,by go_num,⟨fun _=>HX.out,fun h=>by omega⟩,B5.out⟩
      case measure=>simp [intOf]
     ·obtain ⟨e0,e1,e2,e3,e4⟩:=box5' ((b5.block _ hz1).trans HC5.out)
      have hq:∃ q,pmay t ((k:Int)+1) false=q:=⟨_,rfl⟩
      obtain ⟨q,hq⟩:=hq
      have HQ:=Lib.hid hq
      have HB5:=Lib.hid b5
      clear hq b5
      go_wp2_with fail
      refine (may_any t b cbp ((k:Int)+1) false _ (HTW.out.below HB5.out)).mono ?_
      rintro e w6 ⟨rfl,b6⟩
      rw [HQ.out]
      have B6:=Lib.hid (HI.out.trans ((HB5.out.trans (b6.mono HB5.out.size)).mono HI.out.size))
      clear b6
      cases q
      ·have HX:=Lib.hid (show lessB pmay s t=true from less_true (b:=false) h4 (by unfold lessAt; rw [HP.out,HQ.out]; rfl))
       go_wp2
       go_ret
       exact ⟨ret_bool HX.out.symm,HBW.out.trans (((bal wo _).trans (B6.out.mono (bal wo _).size)).mono HBW.out.size)⟩
      ·have HX:=Lib.hid (show lessAt pmay s t ((k:Int)+1) false=false from by unfold lessAt; rw [HP.out,HQ.out]; rfl)
       go_wp2
       go_roundw
       case rel=>exact ⟨0+1,by omega,by go_num,⟨fun _=>HX.out,fun h=>by omega⟩,B6.out⟩
       case measure=>simp [intOf]
    ·skip
     have hpm:∃ p,pmay s ((k:Int)+1) true=p:=⟨_,rfl⟩
     obtain ⟨p,hp⟩:=hpm
     have HP:=Lib.hid hp
     clear hp
     go_wp2_with fail
     refine (may_any s a cap ((k:Int)+1) true _ HSW.out).mono ?_
     rintro e w5 ⟨rfl,b5⟩
     rw [HP.out]
     cases p
     ·have HX:=Lib.hid (show lessAt pmay s t ((k:Int)+1) true=false from by unfold lessAt; rw [HP.out]; rfl)
      have B5:=Lib.hid (HI.out.trans (b5.mono HI.out.size))
      clear b5
      go_wp2
      go_roundw
      case rel=>exact ⟨1+1,by omega,by go_num,⟨fun _=>HM.out.1 (by omega),fun _=>HX.out⟩,B5.out⟩
      case measure=>simp [intOf]
     ·obtain ⟨e0,e1,e2,e3,e4⟩:=box5' ((b5.block _ hz1).trans HC5.out)
      have hq:∃ q,pmay t ((k:Int)+1) true=q:=⟨_,rfl⟩
      obtain ⟨q,hq⟩:=hq
      have HQ:=Lib.hid hq
      have HB5:=Lib.hid b5
      clear hq b5
      go_wp2_with fail
      refine (may_any t b cbp ((k:Int)+1) true _ (HTW.out.below HB5.out)).mono ?_
      rintro e w6 ⟨rfl,b6⟩
      rw [HQ.out]
      have B6:=Lib.hid (HI.out.trans ((HB5.out.trans (b6.mono HB5.out.size)).mono HI.out.size))
      clear b6
      cases q
      ·have HX:=Lib.hid (show lessB pmay s t=true from less_true (b:=true) h4 (by unfold lessAt; rw [HP.out,HQ.out]; rfl))
       go_wp2
       go_ret
       exact ⟨ret_bool HX.out.symm,HBW.out.trans (((bal wo _).trans (B6.out.mono (bal wo _).size)).mono HBW.out.size)⟩
      ·have HX:=Lib.hid (show lessAt pmay s t ((k:Int)+1) true=false from by unfold lessAt; rw [HP.out,HQ.out]; rfl)
       go_wp2
       go_roundw
       case rel=>exact ⟨1+1,by omega,by go_num,⟨fun _=>HM.out.1 (by omega),fun _=>HX.out⟩,B6.out⟩
       case measure=>simp [intOf]
    ·go_wp2
     go_roundw
     case rel=>exact ⟨k+1,by omega,by go_num,less_step HN.out (HM.out.1 (by omega)) (HM.out.2 (by omega)),HB.out.trans (((bal wo _).trans ((HI.out).mono (bal wo _).size)).mono HB.out.size)⟩
     case measure=>simp [intOf]; omega
  ·have:=less_false (fun j hj=>HN.out j (by omega))
   have HF:=Lib.hid this
   clear this
   go_wp2
   go_ret
   exact ⟨ret_bool HF.out.symm,HBW.out⟩
end Go.Proofs.YtajegiifabfcjaaGreatDoor
