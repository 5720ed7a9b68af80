/-
  With, KnownPlain, OrdPlain, May, HoldR, RefT, Ref
-/
import Derived.Test.YtajegiifabfcjaaGreatDoorQ08
import Derived.Test.YtajegiifabfcjaaGreatDoorQ07
namespace Go.Proofs.YtajegiifabfcjaaGreatDoor
open Go.RowKit
theorem OwnP.lo {B:Nat} {w:World} {a:Option Addr} {n c:Nat} {l:List (Int × Int)} (h:OwnP B w (.slice a n c) l):∀ b o,a=some ⟨b,o,none⟩→B≤b:=by
 obtain ⟨_,h2⟩:=h
 rcases h2 with ⟨e1,_⟩ | ⟨g,cap',cur,e1,hg,_⟩
 ·simp at e1; intro b o hk; rw [e1.1] at hk; cases hk
 ·simp at e1; intro b o hk; rw [e1.1] at hk; simp at hk; omega
theorem Pairs.setCell {B:Nat} {w:World} {a:Option Addr} {l:List (Int × Int)} (h:Pairs B w a l) {p:Addr} (hp:∀ b o,a=some ⟨b,o,none⟩→b≠p.block) (u:Value):Pairs B (w.setCell p u) a l:=by
 intro i hi
 obtain ⟨b,o,rfl,hb,h1,h2⟩:=h i hi
 have hne:=hp b o rfl
 have hh:(w.setCell p u).heap[b]?=w.heap[b]?:=Below.heap_setCell _ _ _ _ hne
 exact ⟨b,o,rfl,hb,(World.cell?_of_block (w:=w) hh).trans h1,(World.cell?_of_block (w:=w) hh).trans h2⟩
theorem insert_any (l:List (Int × Int)) (a:Option Addr) (cap B i:Nat) (x y:Int) (T:TypeId) (w:World) (hl:l.length≤100) (hi:i≤l.length) (hr:OwnP B w (.slice a l.length cap) l) (hB:B≤w.heap.size) :
  Calls Tryz.prog 176 #[.slice a l.length cap,.int .i64 i,.slice (some ⟨w.heap.size,0,none⟩) 1 1] (w.alloc (.cells #[.int .i64 x,.int .i64 y] T)) fun e w'=>∃ v',e=.returned v'∧OwnP B w' v' (insertAt l i (x,y))∧Below B (w.alloc (.cells #[.int .i64 x,.int .i64 y] T)) w':=by
 have hr1:=hr.below (bal w (.cells #[.int .i64 x,.int .i64 y] T))
 have hB1:B≤(w.alloc (.cells #[.int .i64 x,.int .i64 y] T)).heap.size:=by simp; omega
 rcases (by omega:i=l.length∨i<l.length) with rfl | hlt
 ·exact insert_end l a cap B x y w.heap.size 1 _ hl hr1 hB1 (by simp) (by simp)
 ·obtain ⟨h1,h2⟩:=hr
  rcases h2 with ⟨_,h0⟩ | ⟨g,cap',cur,e1,hgB,hgh,hnc,hcm,hcs,ht⟩
  ·omega
  ·obtain ⟨rfl,rfl⟩:a=some ⟨g,0,none⟩∧cap=cap':=by simpa using e1
   have hglt:g<w.heap.size:=(Array.getElem?_eq_some_iff.1 hgh).1
   have hgh1:(w.alloc (.cells #[.int .i64 x,.int .i64 y] T)).heap[g]?=some (.cells cur 118 (0,0)):=by rw [Below.heap_alloc w _ _ hglt]; exact hgh
   rcases (by omega:l.length+1≤cap∨cap=l.length) with hroom | rfl
   ·exact insert_mid l g cap B i x y w.heap.size 1 T cur _ hl hlt hroom hcm hgB hgh1 hcs ht (heap_alloc_new _ _) (by omega)
   ·exact insert_grow l g B i x y w.heap.size 1 T cur _ hl hlt hB1 hgh1 hcs ht (heap_alloc_new _ _)
def ins (who key:Int):List (Int × Int)→List (Int × Int)
 | []=>[(who,key)]
 | r :: l=>if r.1<who then r :: ins who key l else (who,key) :: r :: l
def withL (l:List (Int × Int)) (who key:Int):List (Int × Int):=if 0<key then ins who key (without who l) else without who l
theorem insertAt_ins (who key:Int):∀ (l:List (Int × Int)) (i:Nat),i≤l.length→(∀ j (h:j<l.length),j<i→l[j].1<who)→(∀ j (h:j<l.length),i≤j→who≤l[j].1)→insertAt l i (who,key)=ins who key l
 | [],i,hi,_,_=>by
  have:i=0:=by simpa using hi
  subst this; rfl
 | r :: l,0,_,_,h2=>by
  have:=h2 0 (by simp) (by omega)
  simp at this
  unfold ins
  rw [if_neg (by omega)]; rfl
 | r :: l,i+1,hi,h1,h2=>by
  have:=h1 0 (by simp) (by omega)
  simp at this
  unfold ins
  rw [if_pos this,← insertAt_ins who key l i (by simpa using hi) (fun j h hj=>by have:=h1 (j+1) (by simp; omega) (by omega); simpa using this) (fun j h hj=>by have:=h2 (j+1) (by simp; omega) (by omega); simpa using this)]
  rfl
def St.withRegs (s:St) (l:List (Int × Int)):St:=⟨s.gen,l,s.typ,s.holder,s.stays⟩
theorem without_len (who:Int) (l:List (Int × Int)):(without who l).length≤l.length:=List.length_filter_le _ _
theorem ins_len (who key:Int):∀ l:List (Int × Int),(ins who key l).length=l.length+1
 | []=>rfl
 | r :: l=>by unfold ins; split <;> simp [ins_len who key l]
set_option maxHeartbeats 2000000 in
set_option maxRecDepth 100000 in
theorem with_lo (s:St) (a:Option Addr) (cap:Nat) (who key:Int) (w:World) (hr:StR w s a) (hl:s.regs.length≤50) (hw:0≤who∧who≤1000) (hb:∀ r∈s.regs,0≤r.1∧r.1≤1000) (hs:s.regs.Pairwise (fun a b=>a.1<b.1)) :
  Calls Tryz.prog 148 #[stV s a cap,.int .i64 who,.int .i64 key] w fun e w'=>∃ a' cap',e=.returned (stV (s.withRegs (withL s.regs who key)) a' cap')∧StR w' (s.withRegs (withL s.regs who key)) a'∧Below w.heap.size w w'∧(∀ b o,a'=some ⟨b,o,none⟩→w.heap.size≤b):=by
 obtain ⟨g,l,t,h,st⟩:=s
 dsimp only at hl hb hs
 obtain ⟨_,hp⟩:=hr
 dsimp only at hp
 have hp1:∀ o,Pairs (w.alloc o).heap.size (w.alloc o) a l:=fun o=>(hp.below (bal w o) (Nat.le_refl _)).mono (by simp)
 have hp2:∀ o1 o2,Pairs ((w.alloc o1).alloc o2).heap.size ((w.alloc o1).alloc o2) a l:=fun o1 o2=>((hp1 o1).below (bal _ o2) (Nat.le_refl _)).mono (by simp)
 have hp3:∀ o1 o2 o3,Pairs (((w.alloc o1).alloc o2).alloc o3).heap.size (((w.alloc o1).alloc o2).alloc o3) a l:=fun o1 o2 o3=>((hp2 o1 o2).below (bal _ o3) (Nat.le_refl _)).mono (by simp)
 have HB:=Lib.hid hb
 have HS:=Lib.hid hs
 clear hb hs hp hp1 hp2
 go_enter Tryz.func148,Tryz.ntmps148
 go_wp2_with fail
 refine (clone_reg l a cap _ (by omega) (hp3 _ _ _)).mono ?_
 rintro e w1 ⟨v1,rfl,own1,b1⟩
 obtain ⟨hc,hf⟩:=bcell b1
 have cw:w1.cell? ⟨w.heap.size+1,0,none⟩=some (.int .i64 who):=by
  have:=(b1.block (w.heap.size+1) (by simp)).trans (heap3 w _ _ _).2.1
  simp [World.cell?,this]
 go_wp2_with fail
 refine (deletefunc_any l v1 _ who (w.heap.size+1) 0 w1 (by unfold maxLen; omega) own1 cw (by simp) (b1.size)).mono ?_
 rintro e w2 ⟨v2,rfl,own2,h2⟩
 have b2:=b1.trans h2
 clear hc hf own1
 obtain ⟨hc,hf⟩:=bcell b2
 have b02:Below w.heap.size w w2:=bover (bover (bover b2 (by simp)) (by simp)) (by simp)
 obtain ⟨a2,c2,rfl,pr2,_⟩:=own2.shape
 have hdl:=without_len who l
 by_cases hk:0<key
 ·have hwl:withL l who key=ins who key (without who l):=by unfold withL; rw [if_pos hk]
  have HWL:=Lib.hid hwl
  clear hwl
  have HOWN:=Lib.hid own2
  have hbb:∀ r∈without who l,0≤r.1∧r.1≤1000:=fun r hr'=>HB.out r ((List.mem_filter.1 hr').1)
  have hss:(without who l).Pairwise (fun a b=>a.1<b.1):=HS.out.sublist List.filter_sublist
  have HBB:=Lib.hid hbb
  have HSS:=Lib.hid hss
  clear hbb hss
  go_wp2_with fail
  refine (binsearch_any (without who l) a2 c2 who w2 (by omega) pr2 hw HBB.out HSS.out).mono ?_
  rintro e w3 ⟨i,f,rfl,hi,q1,q2,h3⟩
  have hins:insertAt (without who l) i (who,key)=ins who key (without who l):=insertAt_ins who key _ i hi q1 q2
  have HINS:=Lib.hid hins
  clear hins q1 q2
  have b3:=b2.trans (h3.mono b2.size)
  clear hc hf
  obtain ⟨hc,hf⟩:=bcell b3
  go_wp2_with fail
  refine (insert_any (without who l) a2 c2 _ i who key _ w3 (by omega) hi (HOWN.out.below h3) b3.size).mono ?_
  rintro e w4 ⟨v4,rfl,own4,h4⟩
  have b4:=b3.trans ((bal w3 _).mono b3.size) |>.trans h4
  clear hc hf
  obtain ⟨hc,hf⟩:=bcell b4
  rw [HINS.out] at own4
  have hsz4:=b4.size
  obtain ⟨a4,c4,rfl,pr4,_⟩:=own4.shape
  obtain ⟨⟨e0,e1,e2,e3,e4⟩,f0,f1,f2,f3,f4⟩:=box5 b4 (b:=w.heap.size) (by simp; omega) (heap3 w _ _ _).1
  obtain ⟨⟨g0,g1,g2,g3,g4⟩,k0,k1,k2,k3,k4⟩:=box5 b4 (b:=w.heap.size+1+1) (by simp) (heap3 w _ _ _).2.2
  clear hc hf
  go_wp2
  rw [HWL.out]
  refine bodyPost_ret (v:=stV ⟨g,ins who key (without who l),t,h,st⟩ a4 c4) (by simp [results,Tryz.results148,go_sem,g0,g1,g2,g3,g4]) rfl ⟨a4,c4,rfl,⟨?_,?_⟩,?_,?_⟩
  ·show (ins who key (without who l)).length≤maxLen; rw [ins_len]; unfold maxLen; omega
  ·have lo:=own4.lo
   simp only [World.size_alloc] at lo
   have hn:∀ q:Nat,q<w.heap.size+1+1+1→∀ b o,a4=some ⟨b,o,none⟩→b≠q:=fun q hq b o e=>by have:=lo b o e; omega
   refine (?_:Pairs w4.heap.size _ _ _).mono (by simp [World.setCell])
   iterate 6 (with_reducible refine Pairs.setCell ?_ (hn _ (by dsimp only; omega)) _)
   exact pr4
  ·exact ((((((bover (bover (bover b4 (by simp)) (by simp)) (by simp)).setCell (Nat.le_refl _) _).setCell (by show w.heap.size≤w.heap.size+1+1; omega) _).setCell (by show w.heap.size≤w.heap.size+1+1; omega) _).setCell (by show w.heap.size≤w.heap.size+1+1; omega) _).setCell (by show w.heap.size≤w.heap.size+1+1; omega) _).setCell (by show w.heap.size≤w.heap.size+1+1; omega) _
  ·have lo:=own4.lo
   simp only [World.size_alloc] at lo
   intro b o e
   have:=lo b o e
   omega
 ·have hwl:withL l who key=without who l:=by unfold withL; rw [if_neg hk]
  have HWL:=Lib.hid hwl
  clear hwl
  obtain ⟨⟨e0,e1,e2,e3,e4⟩,f0,f1,f2,f3,f4⟩:=box5 b2 (b:=w.heap.size) (by simp; omega) (heap3 w _ _ _).1
  obtain ⟨⟨g0,g1,g2,g3,g4⟩,k0,k1,k2,k3,k4⟩:=box5 b2 (b:=w.heap.size+1+1) (by simp) (heap3 w _ _ _).2.2
  clear hc hf
  go_wp2
  rw [HWL.out]
  refine bodyPost_ret (v:=stV ⟨g,without who l,t,h,st⟩ a2 c2) (by simp [results,Tryz.results148,go_sem,g0,g1,g2,g3,g4]) rfl ⟨a2,c2,rfl,⟨?_,?_⟩,?_,?_⟩
  ·show (without who l).length≤maxLen; unfold maxLen; omega
  ·have lo:=own2.lo
   simp only [World.size_alloc] at lo
   have hn:∀ q:Nat,q<w.heap.size+1+1+1→∀ b o,a2=some ⟨b,o,none⟩→b≠q:=fun q hq b o e=>by have:=lo b o e; omega
   refine (?_:Pairs w2.heap.size _ _ _).mono (by simp [World.setCell])
   iterate 6 (with_reducible refine Pairs.setCell ?_ (hn _ (by dsimp only; omega)) _)
   exact pr2
  ·exact ((((((bover (bover (bover b2 (by simp)) (by simp)) (by simp)).setCell (Nat.le_refl _) _).setCell (by show w.heap.size≤w.heap.size+1+1; omega) _).setCell (by show w.heap.size≤w.heap.size+1+1; omega) _).setCell (by show w.heap.size≤w.heap.size+1+1; omega) _).setCell (by show w.heap.size≤w.heap.size+1+1; omega) _).setCell (by show w.heap.size≤w.heap.size+1+1; omega) _
  ·have lo:=own2.lo
   simp only [World.size_alloc] at lo
   intro b o e
   have:=lo b o e
   omega
theorem keyOf_absent (who:Int):∀ l:List (Int × Int),(∀ r∈l,r.1≠who)→keyOf l who=0
 | [],_=>rfl
 | r :: l,h=>by
  unfold keyOf
  rw [if_neg (h r (by simp))]
  exact keyOf_absent who l (fun x hx=>h x (by simp [hx]))
theorem without_mem (who:Int) (l:List (Int × Int)):∀ r∈without who l,r∈l∧r.1≠who:=by
 intro r hr
 simpa [without] using hr
theorem keyOf_without_self (who:Int) (l:List (Int × Int)):keyOf (without who l) who=0:=keyOf_absent who _ (fun r hr=>(without_mem who l r hr).2)
theorem keyOf_without (who o:Int) (h:o≠who):∀ l:List (Int × Int),keyOf (without who l) o=keyOf l o
 | []=>rfl
 | r :: l=>by
  have ih:=keyOf_without who o h l
  unfold without at ih ⊢
  by_cases e:r.1=who
  ·rw [List.filter_cons_of_neg (by simp [e]),ih]
   conv=>rhs; unfold keyOf
   rw [if_neg (by omega)]
  ·rw [List.filter_cons_of_pos (by simp [e])]
   unfold keyOf
   rw [ih]
theorem ins_eq (who key:Int) (r:Int × Int) (l:List (Int × Int)):ins who key (r :: l)=if who≤r.1 then (who,key) :: r :: l else r :: ins who key l:=by
 by_cases h:who≤r.1
 ·rw [if_pos h]; unfold ins; rw [if_neg (by omega)]
 ·rw [if_neg h]; conv=>lhs; unfold ins
  rw [if_pos (by omega)]
theorem keyOf_ins_self (who key:Int):∀ l:List (Int × Int),(∀ r∈l,r.1≠who)→keyOf (ins who key l) who=key
 | [],_=>by simp [ins,keyOf]
 | r :: l,h=>by
  rw [ins_eq]
  split
  ·simp [keyOf]
  ·unfold keyOf
   rw [if_neg (h r (by simp))]
   exact keyOf_ins_self who key l (fun x hx=>h x (by simp [hx]))
theorem keyOf_ins (who key o:Int) (h:o≠who):∀ l:List (Int × Int),keyOf (ins who key l) o=keyOf l o
 | []=>by simp [ins,keyOf]; omega
 | r :: l=>by
  rw [ins_eq]
  split
  ·conv=>lhs; unfold keyOf
   rw [if_neg (by simp; omega)]
  ·unfold keyOf
   rw [keyOf_ins who key o h l]
theorem keyOf_with_self (l:List (Int × Int)) (who key:Int) (hk:0≤key):keyOf (withL l who key) who=key:=by
 unfold withL
 split
 ·exact keyOf_ins_self who key _ (fun r hr=>(without_mem who l r hr).2)
 ·rw [keyOf_without_self]; omega
theorem keyOf_with (l:List (Int × Int)) (who key o:Int) (h:o≠who):keyOf (withL l who key) o=keyOf l o:=by
 unfold withL
 split
 ·rw [keyOf_ins who key o h,keyOf_without who o h]
 ·exact keyOf_without who o h l
theorem without_ins (who key:Int):∀ l:List (Int × Int),without who (ins who key l)=without who l
 | []=>by simp [ins,without]
 | r :: l=>by
  rw [ins_eq]
  split
  ·simp [without]
  ·have ih:=without_ins who key l
   unfold without at ih ⊢
   rw [List.filter_cons,List.filter_cons,ih]
theorem without_twice (who:Int) (l:List (Int × Int)):without who (without who l)=without who l:=without_all who _ (fun r hr=>(without_mem who l r hr).2)
theorem without_with (l:List (Int × Int)) (who key:Int):without who (withL l who key)=without who l:=by
 unfold withL
 split
 ·rw [without_ins,without_twice]
 ·exact without_twice who l
theorem others_with (l:List (Int × Int)) (who key:Int):othersL who (withL l who key)=othersL who l:=by
 unfold othersL; rw [without_with]
theorem keyOf_nonneg (who:Int):∀ l:List (Int × Int),(∀ r∈l,1≤r.2)→0≤keyOf l who
 | [],_=>by simp [keyOf]
 | r :: l,h=>by
  unfold keyOf
  split
  ·have:=h r (by simp); omega
  ·exact keyOf_nonneg who l (fun x hx=>h x (by simp [hx]))
theorem keyOf_mem (who:Int):∀ l:List (Int × Int),keyOf l who≠0→∃ r∈l,r.1=who∧r.2=keyOf l who
 | [],h=>absurd rfl h
 | r :: l,h=>by
  unfold keyOf at h ⊢
  by_cases e:r.1=who
  ·rw [if_pos e]; exact ⟨r,by simp,e,rfl⟩
  ·rw [if_neg e] at h ⊢
   obtain ⟨x,hx,h1,h2⟩:=keyOf_mem who l h
   exact ⟨x,by simp [hx],h1,h2⟩
theorem keyOf_of_mem:∀ (l:List (Int × Int)),(∀ r∈l,1≤r.2)→∀ r∈l,keyOf l r.1≠0
 | x :: l,hb,r,hr=>by
  unfold keyOf
  split
  ·have:=hb x (by simp); omega
  ·rename_i hne
   rcases List.mem_cons.1 hr with rfl | hr
   ·exact absurd rfl hne
   ·exact keyOf_of_mem l (fun y hy=>hb y (by simp [hy])) r hr
theorem mem_ins (who key:Int):∀ (l:List (Int × Int)) (r:Int × Int),r∈ins who key l→r=(who,key)∨r∈l
 | [],r,h=>by simpa [ins] using h
 | x :: l,r,h=>by
  rw [ins_eq] at h
  split at h
  ·rcases List.mem_cons.1 h with h | h
   ·exact .inl h
   ·exact .inr h
  ·rcases List.mem_cons.1 h with rfl | h
   ·exact .inr (by simp)
   ·rcases mem_ins who key l r h with h | h
    ·exact .inl h
    ·exact .inr (by simp [h])
theorem mem_with {l:List (Int × Int)} {who key:Int} {r:Int × Int} (h:r∈withL l who key):(r=(who,key)∧0<key)∨(r∈l∧r.1≠who):=by
 unfold withL at h
 split at h
 ·rcases mem_ins who key _ r h with h | h
  ·exact .inl ⟨h,by assumption⟩
  ·exact .inr (without_mem who l r h)
 ·exact .inr (without_mem who l r h)
theorem sorted_without {l:List (Int × Int)} (who:Int) (hp:l.Pairwise (fun a b=>a.1<b.1)):(without who l).Pairwise (fun a b=>a.1<b.1):=hp.filter _
theorem sorted_ins (who key:Int):∀ l:List (Int × Int),l.Pairwise (fun a b=>a.1<b.1)→(∀ r∈l,r.1≠who)→(ins who key l).Pairwise (fun a b=>a.1<b.1)
 | [],_,_=>by simp [ins]
 | x :: l,hp,hn=>by
  have hp0:=hp
  rw [List.pairwise_cons] at hp
  have hx:=hn x (by simp)
  rw [ins_eq]
  split
  ·rw [List.pairwise_cons]
   refine ⟨fun b hb=>?_,hp0⟩
   rcases List.mem_cons.1 hb with rfl | hb
   ·show who<_; omega
   ·have:=hp.1 b hb; show who<_; omega
  ·rw [List.pairwise_cons]
   refine ⟨fun b hb=>?_,sorted_ins who key l hp.2 (fun r hr=>hn r (by simp [hr]))⟩
   rcases mem_ins who key l b hb with rfl | hb
   ·show x.1<who; omega
   ·exact hp.1 b hb
theorem sorted_with {l:List (Int × Int)} (who key:Int) (hp:l.Pairwise (fun a b=>a.1<b.1)):(withL l who key).Pairwise (fun a b=>a.1<b.1):=by
 unfold withL
 split
 ·exact sorted_ins who key _ (sorted_without who hp) (fun r hr=>(without_mem who l r hr).2)
 ·exact sorted_without who hp
theorem with_len (l:List (Int × Int)) (who key:Int):(withL l who key).length≤l.length+1:=by
 unfold withL
 split
 ·rw [ins_len]; have:=without_len who l; omega
 ·have:=without_len who l; omega
theorem others_mem {who:Int} {l:List (Int × Int)} {x:Int} (h:x∈othersL who l):x≠who∧∃ r∈l,r.1=x:=by
 unfold othersL at h
 obtain ⟨r,hr,rfl⟩:=List.mem_map.1 h
 obtain ⟨h1,h2⟩:=without_mem who l r hr
 exact ⟨h2,r,h1,rfl⟩
theorem others_sorted {who:Int} {l:List (Int × Int)} (hp:l.Pairwise (fun a b=>a.1<b.1)):(othersL who l).Pairwise (·<·):=by
 unfold othersL
 exact List.pairwise_map.2 (sorted_without who hp)
def St.zero:St:=⟨0,[],0,0,false⟩
def St.free (s:St):St:=⟨s.gen,s.regs,0,0,s.stays⟩
def St.take (s:St) (kind who:Int):St:=⟨s.gen,s.regs,kind,if allT kind then 0 else who,s.stays⟩
def St.withStays (s:St) (b:Bool):St:=⟨s.gen,s.regs,s.typ,s.holder,b⟩
def St.next (s:St):St:=⟨if 1000000000<s.gen+1 then 0 else s.gen+1,s.regs,s.typ,s.holder,s.stays⟩
def toldL (l:List Int) (what:Int):List (Int × Int):=l.map fun w=>(w,what)
def pregister (s:St) (c:Cmd):St × List (Int × Int) :=
 let t:=(s.withRegs (withL s.regs c.who c.new)).withStays c.stays
 if 0<c.new∨holds s c.who=false then (t,[])
 else if allT s.typ=true∧0<t.regs.length then (t,[])
 else if s.typ=5∨s.typ=6 then (t.free,toldL (othersL c.who t.regs) 2)
 else (t.free,[])
def preserve (s:St) (c:Cmd):St × Int :=
 if 0<s.typ then (if holds s c.who=true∧s.typ=c.typ then (s,0) else (s,4))
 else (s.take c.typ c.who,0)
def prelease (s:St) (c:Cmd):St × List (Int × Int) × Int :=
 if holds s c.who=false then (s,[],0)
 else if s.typ≠c.typ then (s,[],5)
 else if 5≤s.typ then (s.free,toldL (othersL c.who s.regs) 2,0)
 else (s.free,[],0)
def outB (who key:Int) (r:Int × Int):Bool:=decide (r.1≠who∧(key=0∨r.2=key))
def goneL (who key:Int) (l:List (Int × Int)):List Int:=(l.filter (outB who key)).map (·.1)
def putOut (l:List (Int × Int)) (gone:List Int):List (Int × Int):=gone.foldl (fun l w=>withL l w 0) l
def ptakes (s:St) (c:Cmd):Bool:=(allT s.typ && decide (c.new=0)) || (decide (0<s.typ) && !allT s.typ && decide (keyOf s.regs s.holder=c.new))
def ppreempt (s:St) (c:Cmd):St × List (Int × Int) × Int :=
 if c.new=0∧ptakes s c=false then (s,[],5)
 else
  let gone:=goneL c.who c.new s.regs
  let t:=s.withRegs (putOut s.regs gone)
  if ptakes s c=false then
   if gone.length=0∧keyOf s.regs c.who≠c.new then (s,[],4) else (t,toldL gone 1,0)
  else (t.free.take c.typ c.who,toldL gone 1 ++ (if s.typ≠c.typ then toldL (othersL c.who t.regs) 2 else []),0)
def pknown (s:St) (c:Cmd):Bool:=decide (0<c.key) && decide (keyOf s.regs c.who=c.key)
def pacts (s:St) (c:Cmd):St × List (Int × Int) × Int :=
 if c.op=1∨c.op=2 then ((pregister s c).1,(pregister s c).2,0)
 else if c.op=3 then ((preserve s c).1,[],(preserve s c).2)
 else if c.op=4 then prelease s c
 else if c.op=5 then ((s.free.withRegs []),toldL (othersL c.who s.regs) 3,0)
 else if c.op=6 then ppreempt s c
 else (s,[],0)
def pdo (s:St) (c:Cmd):St × List (Int × Int) × Int :=
 if 6<c.op then (St.zero,[],2)
 else if (c.op=1∧keyOf s.regs c.who≠c.key)∨(2<c.op∧pknown s c=false) then (St.zero,[],4)
 else if (pacts s c).2.2≠0 then (St.zero,[],(pacts s c).2.2)
 else if c.op≠3∧c.op≠4 then ((pacts s c).1.next,(pacts s c).2.1,0) else ((pacts s c).1,(pacts s c).2.1,0)
def rregister (s:St) (c:Cmd):St × List (Int × Int) :=
 let t:=(s.withRegs (withL s.regs c.who c.new)).withStays c.stays
 if c.new=0∧holds s c.who=true then
  if s.typ<7 then (t.free,if 4<s.typ then toldL (othersL c.who t.regs) 2 else [])
  else if t.regs.length=0 then (t.free,[]) else (t,[])
 else (t,[])
def rtakes (s:St) (c:Cmd):Bool:=if 7≤s.typ then decide (c.new=0) else if 0<s.typ then decide (keyOf s.regs s.holder=c.new) else false
def leftL (who key:Int) (l:List (Int × Int)):List Int:=(l.filter fun r=>decide (r.1≠who) && !outB who key r).map (·.1)
def St.rtake (s:St) (kind who:Int):St:=⟨s.gen,s.regs,kind,if 7≤kind then 0 else who,s.stays⟩
def rpreempt (s:St) (c:Cmd):Option (St × List (Int × Int)) × Int :=
 if c.new=0∧rtakes s c=false then (none,5)
 else if rtakes s c=false∧(goneL c.who c.new s.regs).length=0∧keyOf s.regs c.who≠c.new then (none,4)
 else
  let t:=s.withRegs (putOut s.regs (goneL c.who c.new s.regs))
  if rtakes s c=true then (some (t.rtake c.typ c.who,toldL (goneL c.who c.new s.regs) 1 ++ (if s.typ≠c.typ then toldL (leftL c.who c.new s.regs) 2 else [])),0)
  else (some (t,toldL (goneL c.who c.new s.regs) 1),0)
def racts (s:St) (c:Cmd):Option (St × List (Int × Int)) × Int :=
 if c.op=1∨c.op=2 then (some (rregister s c),0)
 else if c.op=3 then
  if s.typ=0 then (some (s.rtake c.typ c.who,[]),0)
  else if holds s c.who=false∨s.typ≠c.typ then (none,4) else (some (s,[]),0)
 else if c.op=4 then
  if holds s c.who=true∧s.typ≠c.typ then (none,5)
  else if holds s c.who=true then (some (s.free,if 4<s.typ then toldL (othersL c.who s.regs) 2 else []),0) else (some (s,[]),0)
 else if c.op=5 then (some (s.free.withRegs [],toldL (othersL c.who s.regs) 3),0)
 else if c.op=6 then
  rpreempt s c
 else (some (s,[]),0)
def rdo (s:St) (c:Cmd):St × List (Int × Int) × Int :=
 if 6<c.op then (St.zero,[],2)
 else if (c.op=1∧keyOf s.regs c.who≠c.key)∨(2<c.op∧(c.key=0∨keyOf s.regs c.who≠c.key)) then (St.zero,[],4)
 else match (racts s c).1 with
  | none=>(St.zero,[],(racts s c).2)
  | some x=>if c.op≠3∧c.op≠4 then (x.1.next,x.2,0) else (x.1,x.2,0)
theorem allT_ge {n:Int} (h:n=0∨typeMay n=true):allT n=decide (7≤n):=by
 unfold allT
 rcases h with rfl | h
 ·rfl
 ·simp [typeMay] at h
  rw [Bool.eq_iff_iff]; simp; omega
theorem putOut_filter:∀ (gone:List Int) (l:List (Int × Int)),putOut l gone=l.filter (fun r=>!gone.contains r.1)
 | [],l=>by show l=_; rw [List.filter_eq_self.2 (by simp)]
 | w :: gone,l=>by
  have ih:=putOut_filter gone (withL l w 0)
  have e:putOut l (w :: gone)=putOut (withL l w 0) gone:=rfl
  rw [e,ih]
  unfold withL
  rw [if_neg (by omega)]
  unfold without
  rw [List.filter_filter]
  congr 1
  funext r
  by_cases h:r.1=w <;> simp [h]
theorem sorted_inj {l:List (Int × Int)} (hp:l.Pairwise (fun a b=>a.1<b.1)) {a b:Int × Int} (ha:a∈l) (hb:b∈l) (h:a.1=b.1):a=b:=by
 induction l with
 | nil=>cases ha
 | cons x l ih =>
  rw [List.pairwise_cons] at hp
  rcases List.mem_cons.1 ha with rfl | ha'
  ·rcases List.mem_cons.1 hb with rfl | hb'
   ·rfl
   ·have:=hp.1 b hb'; omega
  ·rcases List.mem_cons.1 hb with rfl | hb'
   ·have:=hp.1 a ha'; omega
   ·exact ih hp.2 ha' hb'
theorem gone_contains {l:List (Int × Int)} (hp:l.Pairwise (fun a b=>a.1<b.1)) (who key:Int) {r:Int × Int} (hr:r∈l):(goneL who key l).contains r.1=outB who key r:=by
 rw [Bool.eq_iff_iff,List.contains_iff_mem]
 unfold goneL
 rw [List.mem_map]
 constructor
 ·rintro ⟨x,hx,e⟩
  obtain ⟨h1,h2⟩:=List.mem_filter.1 hx
  rw [sorted_inj hp hr h1 e.symm]; exact h2
 ·intro h
  exact ⟨r,List.mem_filter.2 ⟨hr,h⟩,rfl⟩
theorem putOut_gone {l:List (Int × Int)} (hp:l.Pairwise (fun a b=>a.1<b.1)) (who key:Int):putOut l (goneL who key l)=l.filter (fun r=>!outB who key r):=by
 rw [putOut_filter]
 apply List.filter_congr
 intro r hr
 rw [gone_contains hp who key hr]
theorem left_others {l:List (Int × Int)} (hp:l.Pairwise (fun a b=>a.1<b.1)) (who key:Int):othersL who (putOut l (goneL who key l))=leftL who key l:=by
 rw [putOut_gone hp]
 unfold othersL leftL without
 rw [List.filter_filter]
 congr 1
 apply List.filter_congr
 intro r _
 by_cases h:r.1=who <;> simp [h]
structure CmdOk (c:Cmd):Prop where
 op:1≤c.op∧c.op≤9
 who:1≤c.who∧c.who≤4
 key:0≤c.key∧c.key≤999
 new:0≤c.new∧c.new≤999
 typ:c.op=3∨c.op=4∨c.op=6→typeMay c.typ=true
theorem typ_or {s:St} (g:Good s):s.typ=0∨typeMay s.typ=true:=by
 by_cases h:s.typ=0
 ·exact .inl h
 ·exact .inr (g.typ h)
theorem typ_cases {s:St} (g:Good s):s.typ=0∨s.typ=1∨s.typ=3∨s.typ=5∨s.typ=6∨s.typ=7∨s.typ=8:=by
 rcases typ_or g with h | h
 ·exact .inl h
 ·simp [typeMay] at h; omega
theorem takes_eq {s:St} (g:Good s) (c:Cmd):ptakes s c=rtakes s c:=by
 unfold ptakes rtakes allT
 rcases typ_cases g with h | h | h | h | h | h | h <;> simp [h]
theorem take_eq (s:St) (kind who:Int) (h:typeMay kind=true):s.take kind who=s.rtake kind who:=by
 unfold St.take St.rtake
 rw [allT_ge (.inr h)]
 by_cases h7:7≤kind <;> simp [h7]
theorem holds_typ {s:St} {who:Int} (h:holds s who=true):s.typ≠0:=by
 intro e
 simp [holds,e] at h
theorem register_eq {s:St} (g:Good s) (c:Cmd) (hn:0≤c.new):pregister s c=rregister s c:=by
 unfold pregister rregister
 by_cases h1:0<c.new
 ·simp [h1,(show ¬ c.new=0 by omega)]
 have h0:c.new=0:=by omega
 cases hh:holds s c.who
 ·simp
 have hz:=holds_typ hh
 simp only [h0,Int.lt_irrefl,false_or,Bool.true_eq_false,if_false,and_self,if_true]
 rcases typ_cases g with h | h | h | h | h | h | h
 ·exact absurd h hz
 all_goals simp [h,allT]
 all_goals
  by_cases hl:(St.withStays (s.withRegs (withL s.regs c.who 0)) c.stays).regs=[]
  ·simp [hl]
  ·simp [hl,List.length_pos_iff]
theorem pdo_rdo {s:St} (g:Good s) {c:Cmd} (hc:CmdOk c):pdo s c=rdo s c:=by
 unfold pdo rdo
 by_cases h6:6<c.op
 ·rw [if_pos h6,if_pos h6]
 rw [if_neg h6,if_neg h6]
 have hk:pknown s c=false ↔ (c.key=0∨keyOf s.regs c.who≠c.key):=by
  have:=hc.key
  unfold pknown
  rw [Bool.and_eq_false_iff]
  simp only [decide_eq_false_iff_not]
  constructor
  ·rintro (h | h)
   ·exact .inl (by omega)
   ·exact .inr h
  ·rintro (h | h)
   ·exact .inl (by omega)
   ·exact .inr h
 have hq2:((c.op=1∧keyOf s.regs c.who≠c.key)∨(2<c.op∧pknown s c=false)) ↔ ((c.op=1∧keyOf s.regs c.who≠c.key)∨(2<c.op∧(c.key=0∨keyOf s.regs c.who≠c.key))):=by rw [hk]
 by_cases hq:(c.op=1∧keyOf s.regs c.who≠c.key)∨(2<c.op∧(c.key=0∨keyOf s.regs c.who≠c.key))
 ·rw [if_pos (hq2.2 hq),if_pos hq]
 rw [if_neg (fun x=>hq (hq2.1 x)),if_neg hq]
 have hop:c.op=1∨c.op=2∨c.op=3∨c.op=4∨c.op=5∨c.op=6:=by have:=hc.op; omega
 rcases hop with h | h | h | h | h | h
 ·simp [pacts,racts,h,register_eq g c hc.new.1]
 ·simp [pacts,racts,h,register_eq g c hc.new.1]
 ·have htk:=take_eq s c.typ c.who (hc.typ (.inl h))
  rcases typ_cases g with ht | ht | ht | ht | ht | ht | ht <;> simp [pacts,racts,preserve,h,ht,htk]
  all_goals
   by_cases h1:holds s c.who=true <;> by_cases h2:s.typ=c.typ <;> simp_all
 ·cases h1:holds s c.who
  ·simp [pacts,racts,prelease,h,h1]
  by_cases h2:s.typ=c.typ
  ·by_cases h3:4<s.typ
   ·have h5:5≤s.typ:=by omega
    have e1:prelease s c=(s.free,toldL (othersL c.who s.regs) 2,0):=by unfold prelease; rw [if_neg (by rw [h1]; simp),if_neg (by simpa using h2),if_pos h5]
    simp [pacts,racts,h,h1,h2,e1]
    intro; omega
   ·have h5:¬ 5≤s.typ:=by omega
    have e1:prelease s c=(s.free,[],0):=by unfold prelease; rw [if_neg (by rw [h1]; simp),if_neg (by simpa using h2),if_neg h5]
    simp [pacts,racts,h,h1,h2,e1]
    simp [← h2,h3]
  ·have e1:prelease s c=(s,[],5):=by unfold prelease; rw [if_neg (by rw [h1]; simp),if_pos h2]
   simp [pacts,racts,h,h1,h2,e1]
 ·simp [pacts,racts,h]
 ·have htk:=fun s'=>take_eq s' c.typ c.who (hc.typ (.inr (.inr h)))
  have hte:=takes_eq g c
  have hlo:=left_others g.sorted c.who c.new
  have hpa:pacts s c=ppreempt s c:=by unfold pacts; rw [if_neg (by omega),if_neg (by omega),if_neg (by omega),if_neg (by omega),if_pos h]
  have hra:racts s c=rpreempt s c:=by unfold racts; rw [if_neg (by omega),if_neg (by omega),if_neg (by omega),if_neg (by omega),if_pos h]
  have e:(s.withRegs (putOut s.regs (goneL c.who c.new s.regs))).free.take c.typ c.who=(s.withRegs (putOut s.regs (goneL c.who c.new s.regs))).rtake c.typ c.who:=by
   rw [htk]; rfl
  have e2:othersL c.who (s.withRegs (putOut s.regs (goneL c.who c.new s.regs))).regs=leftL c.who c.new s.regs:=hlo
  have hop:c.op≠3∧c.op≠4:=by omega
  rw [hpa,hra,if_pos hop]
  by_cases h2:c.new=0∧rtakes s c=false
  ·have ep:ppreempt s c=(s,[],5):=by unfold ppreempt; rw [hte,if_pos h2]
   have er:rpreempt s c=(none,5):=by unfold rpreempt; rw [if_pos h2]
   rw [ep,er]; simp
  by_cases h1:rtakes s c=false
  ·by_cases h3:(goneL c.who c.new s.regs).length=0∧keyOf s.regs c.who≠c.new
   ·have ep:ppreempt s c=(s,[],4):=by
     unfold ppreempt; rw [hte,if_neg h2]
     show ite _ _ _=_
     rw [if_pos h1]
     exact if_pos h3
    have er:rpreempt s c=(none,4):=by unfold rpreempt; rw [if_neg h2]; exact if_pos ⟨h1,h3⟩
    rw [ep,er]; simp
   ·have ep:ppreempt s c=(s.withRegs (putOut s.regs (goneL c.who c.new s.regs)),toldL (goneL c.who c.new s.regs) 1,0):=by
     unfold ppreempt; rw [hte,if_neg h2]
     show ite _ _ _=_
     rw [if_pos h1]
     exact if_neg h3
    have er:rpreempt s c=(some (s.withRegs (putOut s.regs (goneL c.who c.new s.regs)),toldL (goneL c.who c.new s.regs) 1),0):=by
     unfold rpreempt; rw [if_neg h2,if_neg (fun x=>h3 x.2)]
     exact if_neg (by rw [h1]; simp)
    rw [ep,er]; simp [hop]
  ·have h1':rtakes s c=true:=by simpa using h1
   have ep:ppreempt s c=((s.withRegs (putOut s.regs (goneL c.who c.new s.regs))).rtake c.typ c.who,toldL (goneL c.who c.new s.regs) 1 ++ (if s.typ≠c.typ then toldL (leftL c.who c.new s.regs) 2 else []),0):=by
    rw [← e,← e2]
    unfold ppreempt; rw [hte,if_neg h2]
    show ite _ _ _=_
    exact if_neg h1
   have er:rpreempt s c=(some ((s.withRegs (putOut s.regs (goneL c.who c.new s.regs))).rtake c.typ c.who,toldL (goneL c.who c.new s.regs) 1 ++ (if s.typ≠c.typ then toldL (leftL c.who c.new s.regs) 2 else [])),0):=by
    unfold rpreempt; rw [if_neg h2,if_neg (fun x=>h1 x.1)]
    exact if_pos h1'
   rw [ep,er]; simp [hop]
theorem holds_any (s:St) (a:Option Addr) (cap:Nat) (who:Int) (w:World) (hr:StR w s a) :
  Calls Tryz.prog 64 #[stV s a cap,.int .i64 who] w fun e w'=>e=.returned (.bool (holds s who))∧Below w.heap.size w w':=by
 have hr1:∀ o,StR (w.alloc o) s a:=fun o=>hr.below (bal w o)
 by_cases ht:s.typ=7∨s.typ=8
 ·have ha:allT s.typ=true:=by simp [allT,ht]
  have hh:holds s who=decide (0<keyOf s.regs who):=by simp [holds,ht]
  rw [hh]
  clear ht hh
  go_enter Tryz.func64,Tryz.ntmps64
  go_wp2_with fail
  refine (all_any s a cap _).mono ?_
  rintro e w1 ⟨rfl,hb1⟩
  obtain ⟨hc,hf⟩:=bcell hb1
  have hr2:=(hr1 _).below hb1
  go_wp2_with fail
  refine (key_any s a cap who _ hr2).mono ?_
  rintro e w2 ⟨rfl,hb2⟩
  go_wp2
  go_ret
  exact ⟨rfl,(bover hb1 (by simp)).trans (hb2.mono (by have:=bsz hb1; omega))⟩
 ·have ha:allT s.typ=false:=by simp [allT,ht]
  have hh:holds s who=decide (0<s.typ∧s.holder=who):=by simp [holds,ht]
  rw [hh]
  clear ht hh
  by_cases hz:0<s.typ
  ·by_cases hw:s.holder=who
   ·subst hw
    go_enter Tryz.func64,Tryz.ntmps64
    go_wp2_with fail
    refine (all_any s a cap _).mono ?_
    rintro e w1 ⟨rfl,hb1⟩
    obtain ⟨hc,hf⟩:=bcell hb1
    go_wp2
    go_ret
    exact ⟨ret_bool (by simp [hz]),bover hb1 (by simp)⟩
   ·have hw':(s.holder == who)=false:=by simpa using hw
    go_enter Tryz.func64,Tryz.ntmps64
    go_wp2_with fail
    refine (all_any s a cap _).mono ?_
    rintro e w1 ⟨rfl,hb1⟩
    obtain ⟨hc,hf⟩:=bcell hb1
    go_wp2
    go_ret
    exact ⟨ret_bool (by simp [hw]),bover hb1 (by simp)⟩
  ·go_enter Tryz.func64,Tryz.ntmps64
   go_wp2_with fail
   refine (all_any s a cap _).mono ?_
   rintro e w1 ⟨rfl,hb1⟩
   obtain ⟨hc,hf⟩:=bcell hb1
   go_wp2
   go_ret
   exact ⟨ret_bool (by simp; omega),bover hb1 (by simp)⟩
theorem known_any (s:St) (a:Option Addr) (cap:Nat) (w:World) :
  Calls Tryz.prog 65 #[stV s a cap] w fun e w'=>e=.returned (.bool (knownT s.typ))∧Below w.heap.size w w':=by
 obtain ⟨g,l,t,h,st⟩:=s
 go_enter Tryz.func65,Tryz.ntmps65
 go_wp2
 go_ret
 exact ⟨rfl,bal w _⟩
theorem writes_any (s:St) (a:Option Addr) (cap:Nat) (w:World) :
  Calls Tryz.prog 66 #[stV s a cap] w fun e w'=>e=.returned (.bool (writesT s.typ))∧Below w.heap.size w w':=by
 obtain ⟨g,l,t,h,st⟩:=s
 dsimp only
 by_cases h1:t=1
 ·subst h1
  go_enter Tryz.func66,Tryz.ntmps66
  go_wp2
  go_ret
  exact ⟨rfl,bal w _⟩
 by_cases h5:t=5
 ·subst h5
  go_enter Tryz.func66,Tryz.ntmps66
  go_wp2
  go_ret
  exact ⟨rfl,bal w _⟩
 by_cases h7:t=7
 ·subst h7
  go_enter Tryz.func66,Tryz.ntmps66
  go_wp2
  go_ret
  exact ⟨rfl,bal w _⟩
 go_enter Tryz.func66,Tryz.ntmps66
 go_wp2
 go_ret
 exact ⟨ret_bool (by simp [writesT,h1,h5,h7]),bal w _⟩
theorem may_any (s:St) (a:Option Addr) (cap:Nat) (who:Int) (wr:Bool) (w:World) (hr:StR w s a) :
  Calls Tryz.prog 32 #[stV s a cap,.int .i64 who,.bool wr] w fun e w'=>e=.returned (.bool (pmay s who wr))∧Below w.heap.size w w':=by
 have hr1:∀ o,StR (w.alloc o) s a:=fun o=>hr.below (bal w o)
 by_cases h0:s.typ=0
 ·have hp:pmay s who wr=true:=by simp [pmay,h0]
  rw [hp]
  clear hp
  go_enter Tryz.func32,Tryz.ntmps32
  go_wp2
  go_ret
  exact ⟨rfl,bal w _⟩
 have h0':(s.typ == 0)=false:=by simpa using h0
 have hp0:pmay s who wr=if holds s who=true then true else if 5≤s.typ∧0<keyOf s.regs who then true else !wr && writesT s.typ:=by simp [pmay,h0]
 rw [hp0]
 clear hp0 h0
 by_cases hh:holds s who=true
 ·rw [if_pos hh]
  go_enter Tryz.func32,Tryz.ntmps32
  go_wp2_with fail
  refine (holds_any s a cap who _ (hr1 _)).mono ?_
  rintro e w1 ⟨rfl,hb1⟩
  obtain ⟨hc,hf⟩:=bcell hb1
  go_wp2
  go_ret
  exact ⟨rfl,bover hb1 (by simp)⟩
 have hh':holds s who=false:=by simpa using hh
 rw [if_neg hh]
 clear hh
 by_cases h5:5≤s.typ
 ·have hk:knownT s.typ=true:=by simp [knownT,h5]
  by_cases hq:0<keyOf s.regs who
  ·rw [if_pos ⟨h5,hq⟩]
   have hq':decide (0<keyOf s.regs who)=true:=by simpa using hq
   go_enter Tryz.func32,Tryz.ntmps32
   go_wp2_with fail
   refine (holds_any s a cap who _ (hr1 _)).mono ?_
   rintro e w1 ⟨rfl,hb1⟩
   obtain ⟨hc,hf⟩:=bcell hb1
   have hr2:=(hr1 _).below hb1
   go_wp2_with fail
   refine (known_any s a cap _).mono ?_
   rintro e w2 ⟨rfl,hb2⟩
   have hb12:=hb1.trans (hb2.mono (hb1.size))
   obtain ⟨hc',hf'⟩:=bcell hb12
   have hr3:=(hr1 _).below hb12
   clear hc hf
   go_wp2_with fail
   refine (key_any s a cap who _ hr3).mono ?_
   rintro e w3 ⟨rfl,hb3⟩
   go_wp2
   go_ret
   exact ⟨rfl,(bover hb12 (by simp)).trans (hb3.mono (by have:=bsz hb12; omega))⟩
  ·rw [if_neg (fun h=>hq h.2)]
   have hq':decide (0<keyOf s.regs who)=false:=by simpa using hq
   go_enter Tryz.func32,Tryz.ntmps32
   go_wp2_with fail
   refine (holds_any s a cap who _ (hr1 _)).mono ?_
   rintro e w1 ⟨rfl,hb1⟩
   obtain ⟨hc,hf⟩:=bcell hb1
   have hr2:=(hr1 _).below hb1
   go_wp2_with fail
   refine (known_any s a cap _).mono ?_
   rintro e w2 ⟨rfl,hb2⟩
   have hb12:=hb1.trans (hb2.mono (hb1.size))
   obtain ⟨hc',hf'⟩:=bcell hb12
   have hr3:=(hr1 _).below hb12
   clear hc hf
   go_wp2_with fail
   refine (key_any s a cap who _ hr3).mono ?_
   rintro e w3 ⟨rfl,hb3⟩
   have hb13:=hb12.trans (hb3.mono (hb12.size))
   obtain ⟨hc,hf⟩:=bcell hb13
   clear hc' hf'
   cases wr
   ·go_wp2_with fail
    refine (writes_any s a cap _).mono ?_
    rintro e w4 ⟨rfl,hb4⟩
    go_wp2
    go_ret
    exact ⟨rfl,(bover hb13 (by simp)).trans (hb4.mono (by have:=bsz hb13; omega))⟩
   ·go_wp2
    go_ret
    exact ⟨rfl,bover hb13 (by simp)⟩
 ·rw [if_neg (fun h=>h5 h.1)]
  have hk:knownT s.typ=false:=by simp [knownT]; omega
  go_enter Tryz.func32,Tryz.ntmps32
  go_wp2_with fail
  refine (holds_any s a cap who _ (hr1 _)).mono ?_
  rintro e w1 ⟨rfl,hb1⟩
  obtain ⟨hc,hf⟩:=bcell hb1
  have hr2:=(hr1 _).below hb1
  go_wp2_with fail
  refine (known_any s a cap _).mono ?_
  rintro e w2 ⟨rfl,hb2⟩
  have hb12:=hb1.trans (hb2.mono (hb1.size))
  obtain ⟨hc',hf'⟩:=bcell hb12
  clear hc hf
  cases wr
  ·go_wp2_with fail
   refine (writes_any s a cap _).mono ?_
   rintro e w4 ⟨rfl,hb4⟩
   go_wp2
   go_ret
   exact ⟨rfl,(bover hb12 (by simp)).trans (hb4.mono (by have:=bsz hb12; omega))⟩
  ·go_wp2
   go_ret
   exact ⟨rfl,bover hb12 (by simp)⟩
theorem rkey_any (s:St) (a:Option Addr) (cap:Nat) (who:Int) (w:World) (hr:StR w s a) :
  Calls Tryz.prog 68 #[stV s a cap,.int .i64 who] w fun e w'=>e=.returned (.int .i64 (keyOf s.regs who))∧Below w.heap.size w w':=by
 obtain ⟨g,l,t,h,st⟩:=s
 obtain ⟨hl,hr⟩:=hr
 unfold maxLen at hl
 dsimp only at hl hr
 go_enter Tryz.func68,Tryz.ntmps68
 go_wp2
 go_loop [5] (fun i=>∃ k:Nat,k≤l.length∧i=.int .i64 k∧keyOf (l.drop k) who=keyOf l who) (fun i=>l.length - (intOf i).toNat)
 case atStart=>exact ⟨0,by omega,rfl,rfl⟩
 case round =>
  obtain ⟨k,hk,rfl,hK⟩:=hrel
  have HK:=Lib.hid hK; clear hK
  by_cases hlt:k<l.length
  ·obtain ⟨b,o,rfl,hbs,h1,h2⟩:=hr k hlt
   clear hr
   go_wp2
   ·have hw:(l[k].1 == who)=true:=by assumption
    go_ret
    exact ⟨ret_int (keyOf_hit l k hlt who hw HK.out),bal w _⟩
   ·have hw:(l[k].1 == who)=false:=by assumption
    go_round
    case rel=>exact ⟨k+1,by omega,by go_num,keyOf_miss l k hlt who hw HK.out⟩
    case measure=>simp [intOf]; omega
  ·go_wp2
   go_ret
   exact ⟨ret_int (keyOf_end l k (by omega) who HK.out),bal w _⟩
theorem rholds_any (s:St) (a:Option Addr) (cap:Nat) (who:Int) (w:World) (hr:StR w s a) :
  Calls Tryz.prog 69 #[stV s a cap,.int .i64 who] w fun e w'=>e=.returned (.bool (holds s who))∧Below w.heap.size w w':=by
 have hr1:∀ o,StR (w.alloc o) s a:=fun o=>hr.below (bal w o)
 by_cases h7:s.typ=7
 ·have hh:holds s who=decide (0<keyOf s.regs who):=by simp [holds,h7]
  rw [hh]
  have h7b:(s.typ == 7)=true:=by simp [h7]
  clear hh h7
  go_enter Tryz.func69,Tryz.ntmps69
  go_wp2_with fail
  refine (rkey_any s a cap who _ (hr1 _)).mono ?_
  rintro e w2 ⟨rfl,hb2⟩
  go_wp2
  go_ret
  exact ⟨rfl,bover hb2 (by simp)⟩
 have h7b:(s.typ == 7)=false:=by simp [h7]
 by_cases h8:s.typ=8
 ·have hh:holds s who=decide (0<keyOf s.regs who):=by simp [holds,h8]
  rw [hh]
  have h8b:(s.typ == 8)=true:=by simp [h8]
  clear hh h8
  go_enter Tryz.func69,Tryz.ntmps69
  go_wp2_with fail
  refine (rkey_any s a cap who _ (hr1 _)).mono ?_
  rintro e w2 ⟨rfl,hb2⟩
  go_wp2
  go_ret
  exact ⟨rfl,bover hb2 (by simp)⟩
 have hh:holds s who=decide (0<s.typ∧s.holder=who):=by simp [holds,h7,h8]
 rw [hh]
 have h8b:(s.typ == 8)=false:=by simp [h8]
 clear hh
 by_cases hz:0<s.typ
 ·by_cases hw:s.holder=who
  ·subst hw
   go_enter Tryz.func69,Tryz.ntmps69
   go_wp2
   go_ret
   exact ⟨ret_bool (by simp [hz]),bal w _⟩
  ·have hw':(s.holder == who)=false:=by simpa using hw
   go_enter Tryz.func69,Tryz.ntmps69
   go_wp2
   go_ret
   exact ⟨ret_bool (by simp [hw]),bal w _⟩
 ·go_enter Tryz.func69,Tryz.ntmps69
  go_wp2
  go_ret
  exact ⟨ret_bool (by simp; omega),bal w _⟩
end Go.Proofs.YtajegiifabfcjaaGreatDoor
