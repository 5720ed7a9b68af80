/-
  TgGrp, DoPlain, DoTop, TopOrdP
-/
import Derived.Test.YtajegiifabfcjaaGreatDoorQ12
import Derived.Test.YtajegiifabfcjaaGreatDoorQ09
import Derived.Test.YtajegiifabfcjaaGreatDoorQ10
import Derived.Test.YtajegiifabfcjaaGreatDoorQ11
import Derived.Test.YtajegiifabfcjaaGreatDoorQ17
import Derived.Test.YtajegiifabfcjaaGreatDoorQ07
namespace Go.Proofs.YtajegiifabfcjaaGreatDoor
open Go.RowKit
def flG (g:Gp) (i:Nat):Int:=(g.r.getD i Rp.zero).floor
theorem isM_iff {g:Gp} {ep:Int} {i:Nat}:g.isM ep i=true ↔ g.u.getD i false=true∧flG g i=ep:=by
 unfold Gp.isM flG
 simp only [Bool.and_eq_true,decide_eq_true_eq]
theorem flG_setR {g:Gp} {i j:Nat} {r:Rp} (hi:i<g.r.length):flG (g.setR i r) j=if j=i then r.floor else flG g j:=by
 unfold flG
 rw [getR_setR hi]
 split <;> rfl
structure QI (g:Gp) (ep:Int):Prop where
 ok:g.ok
 two:∃ i j,i<j∧j<3∧flG g i=ep∧flG g j=ep
 le:∀ i,i<3→flG g i≤ep
theorem QI.few {g:Gp} {ep:Int} (h:QI g ep):¬ 2≤(g.mem (ep - 1)).length:=by
 intro hm
 obtain ⟨i,j,hij,hj,h1,h2⟩:=h.two
 rcases mem_two hm hij hj with e | e
 ·have:=(isM_iff.1 e).2; omega
 ·have:=(isM_iff.1 e).2; omega
theorem QI.fence {g:Gp} {ep:Int} (h:QI g ep):g.fence ep=g:=by unfold Gp.fence; rw [if_neg h.few]
theorem QI.setU {g:Gp} {ep:Int} (h:QI g ep) (i:Nat) (b:Bool):QI (g.setU i b) ep:=⟨h.ok.setU i b,h.two,h.le⟩
theorem flG_admit (r:Rp) (k:Nat) (c:Cel):(r.admitC k c).floor=r.floor:=by unfold Rp.admitC; split <;> rfl
theorem flG_deliver {g:Gp} (hg:g.ok) {i k:Nat} (hi:i<3) (c:Cel) (j:Nat):flG (g.deliver i k c) j=flG g j:=by
 unfold Gp.deliver
 split
 ·rw [flG_setR (by rw [hg.r3]; exact hi)]
  split
  ·rename_i h; subst h; rw [flG_admit]; rfl
  ·rfl
 ·rfl
theorem QI.deliver {g:Gp} {ep:Int} (h:QI g ep) {i k:Nat} (hi:i<3) (c:Cel):QI (g.deliver i k c) ep:=by
 refine ⟨Gp.deliver_ok h.ok hi c,?_,fun j hj=>by rw [flG_deliver h.ok hi]; exact h.le j hj⟩
 obtain ⟨a,b,h1,h2,h3,h4⟩:=h.two
 exact ⟨a,b,h1,h2,by rw [flG_deliver h.ok hi]; exact h3,by rw [flG_deliver h.ok hi]; exact h4⟩
theorem flG_sync {g:Gp} (hg:g.ok) (ep:Int) {i:Nat} (hi:i<3) (j:Nat):flG (g.sync ep i) j=if g.syncs ep i=true∧j=i then ep else flG g j:=by
 unfold Gp.sync
 split
 ·rename_i hs
  rw [flG_setR (by rw [hg.r3]; exact hi)]
  by_cases hj:j=i
  ·rw [if_pos hj,if_pos ⟨hs,hj⟩]
  ·rw [if_neg hj,if_neg (fun e=>hj e.2)]
 ·rename_i hs
  rw [if_neg (fun e=>hs e.1)]
theorem QI.sync {g:Gp} {ep:Int} (h:QI g ep) {i:Nat} (hi:i<3):QI (g.sync ep i) ep:=by
 refine ⟨Gp.sync_ok h.ok ep i,?_,fun j hj=>?_⟩
 ·obtain ⟨a,b,h1,h2,h3,h4⟩:=h.two
  refine ⟨a,b,h1,h2,?_,?_⟩
  ·rw [flG_sync h.ok ep hi]; split
   ·rfl
   ·exact h3
  ·rw [flG_sync h.ok ep hi]; split
   ·rfl
   ·exact h4
 ·rw [flG_sync h.ok ep hi]; split
  ·omega
  ·exact h.le j hj
theorem flG_put1 {g:Gp} (hg:g.ok) {k:Nat} (c:Cel) {i:Nat} (hi:i<3) (j:Nat):flG (g.put1 k c i) j=flG g j:=by
 unfold Gp.put1
 rw [show (i:Int).toNat=i from rfl,flG_setR (by rw [hg.r3]; exact hi)]
 split
 ·rename_i h; subst h; rfl
 ·rfl
theorem flG_putAll {k:Nat} (c:Cel) (j:Nat):∀ (l:List Int) (g:Gp),g.ok→(∀ x∈l,∃ i:Nat,x=i∧i<3)→flG (g.putAll k c l) j=flG g j∧(g.putAll k c l).u=g.u
 | [],g,_,_=>⟨rfl,rfl⟩
 | x :: l,g,hg,hl=>by
  obtain ⟨i,rfl,hi⟩:=hl x (by simp)
  have ih:=flG_putAll (k:=k) c j l (g.put1 k c i) (Gp.put1_ok hg k c hi) (fun y hy=>hl y (by simp [hy]))
  have e:g.putAll k c ((i:Int) :: l)=(g.put1 k c i).putAll k c l:=rfl
  rw [e]
  exact ⟨ih.1.trans (flG_put1 hg c hi j),ih.2⟩
theorem flG_read {g:Gp} (hg:g.ok) (ep:Int) (k j:Nat):flG (g.read ep k) j=flG g j∧(g.read ep k).u=g.u:=by
 unfold Gp.read
 split
 ·exact flG_putAll _ j _ g hg mem_nat
 ·exact ⟨rfl,rfl⟩
theorem QI.read {g:Gp} {ep:Int} (h:QI g ep) (k:Nat):QI (g.read ep k) ep:=by
 refine ⟨Gp.read_ok h.ok ep k,?_,fun j hj=>by rw [(flG_read h.ok ep k j).1]; exact h.le j hj⟩
 obtain ⟨a,b,h1,h2,h3,h4⟩:=h.two
 exact ⟨a,b,h1,h2,by rw [(flG_read h.ok ep k _).1]; exact h3,by rw [(flG_read h.ok ep k _).1]; exact h4⟩
theorem mem_congr {g h:Gp} {ep ep':Int} (e:∀ i,i<3→g.isM ep i=h.isM ep' i):g.mem ep=h.mem ep':=by
 unfold Gp.mem Gp.memTo
 congr 1
 exact List.filter_congr fun i hi=>e i (List.mem_range.1 hi)
theorem mem_of_fl {g h:Gp} {ep:Int} (hu:g.u=h.u) (hf:∀ i,i<3→flG g i=flG h i):g.mem ep=h.mem ep:=by
 refine mem_congr fun i hi=>?_
 rw [Bool.eq_iff_iff,isM_iff,isM_iff,hu,hf i hi]
theorem flG_fenceTo {g:Gp} (hg:g.ok) (ep:Int) (j:Nat):∀ n,n≤3→flG (g.fenceTo ep n) j=if j<n∧g.u.getD j false=true∧flG g j=ep - 1 then ep else flG g j
 | 0,_=>by rw [if_neg (by omega)]; rfl
 | n+1,hn=>by
  have ih:=flG_fenceTo hg ep j n (by omega)
  have ok:=Gp.fenceTo_ok hg ep n (by omega)
  unfold Gp.fenceTo
  split
  ·rename_i hu
   rw [flG_setR (by rw [ok.r3]; omega)]
   by_cases hj:j=n
   ·subst hj
    rw [if_pos rfl]
    have e:flG (g.fenceTo ep j) j=flG g j:=by rw [ih,if_neg (by omega)]
    have e2:((g.fenceTo ep j).r.getD j Rp.zero).floor=flG g j:=e
    unfold Rp.fence
    by_cases hf:flG g j=ep - 1
    ·rw [if_pos (by rw [e2]; exact hf),if_pos ⟨by omega,hu,hf⟩]
    ·rw [if_neg (by rw [e2]; exact hf),if_neg (fun h=>hf h.2.2),e2]
   ·rw [if_neg hj,ih]
    by_cases hc:j<n∧g.u.getD j false=true∧flG g j=ep - 1
    ·rw [if_pos hc,if_pos ⟨by omega,hc.2⟩]
    ·rw [if_neg hc,if_neg (fun h=>hc ⟨by omega,h.2⟩)]
  ·rename_i hu
   rw [ih]
   by_cases hc:j<n∧g.u.getD j false=true∧flG g j=ep - 1
   ·rw [if_pos hc,if_pos ⟨by omega,hc.2⟩]
   ·rw [if_neg hc,if_neg (fun h=>hc ⟨by
     have:j≠n:=fun e=>hu (e▸h.2.1)
     omega,h.2⟩)]
theorem u_fence (g:Gp) (ep:Int):(g.fence ep).u=g.u:=by
 unfold Gp.fence; split
 ·exact Gp.fenceTo_u g ep 3
 ·rfl
theorem fence_next {g:Gp} {ep:Int} (h:QI g ep) (hm:2≤(g.mem ep).length):QI (g.fence (ep+1)) (ep+1)∧(g.fence (ep+1)).mem (ep+1)=g.mem ep∧(∀ j,j<3→flG (g.fence (ep+1)) j=if g.isM ep j=true then ep+1 else flG g j):=by
 have e:g.fence (ep+1)=g.fenceTo (ep+1) 3:=by unfold Gp.fence; rw [if_pos (by rw [show ep+1 - 1=ep by omega]; exact hm)]
 have hf:∀ j,j<3→flG (g.fence (ep+1)) j=if g.isM ep j=true then ep+1 else flG g j:=by
  intro j hj
  rw [e,flG_fenceTo h.ok (ep+1) j 3 (by omega)]
  by_cases hM:g.isM ep j=true
  ·have:=isM_iff.1 hM
   rw [if_pos hM,if_pos ⟨hj,this.1,by omega⟩]
  ·rw [if_neg hM,if_neg (fun hc=>hM (isM_iff.2 ⟨hc.2.1,by omega⟩))]
 have hM:∀ j,j<3→(g.fence (ep+1)).isM (ep+1) j=g.isM ep j:=by
  intro j hj
  rw [Bool.eq_iff_iff,isM_iff,u_fence,hf j hj]
  by_cases hM:g.isM ep j=true
  ·rw [if_pos hM]
   exact ⟨fun _=>hM,fun _=>⟨(isM_iff.1 hM).1,rfl⟩⟩
  ·rw [if_neg hM]
   have:=h.le j hj
   exact ⟨fun hc=>by omega,fun hc=>absurd hc hM⟩
 refine ⟨⟨Gp.fence_ok h.ok _,?_,fun i hi=>?_⟩,mem_congr hM,hf⟩
 ·obtain ⟨i,j,hij,hj,h1,h2⟩:=mem_two' hm
  exact ⟨i,j,hij,hj,by rw [hf i (by omega),if_pos h1],by rw [hf j hj,if_pos h2]⟩
 ·rw [hf i hi]
  have:=h.le i hi
  split <;> omega
structure Fa (S:Cel→Prop):Prop where
 z:S Cel.zero
 uni:∀ x y,S x→S y→x.e=y.e→x.n=y.n→x=y
theorem Fa.total {S:Cel→Prop} (f:Fa S) {x y:Cel} (hx:S x) (hy:S y) (h:newerB x y=false):leC x y:=by
 by_cases e:x.e=y.e∧x.n=y.n
 ·exact .inl (f.uni x y hx hy e.1 e.2).symm
 ·right
  unfold newerB at h ⊢
  simp only [decide_eq_false_iff_not,decide_eq_true_eq] at h ⊢
  omega
theorem leC.refl (a:Cel):leC a a:=.inl rfl
theorem leC.antisymm {a b:Cel} (h:leC a b) (g:leC b a):a=b:=by
 rcases h with h | h
 ·exact h.symm
 ·rcases g with g | g
  ·exact g
  ·unfold newerB at h g
   simp only [decide_eq_true_eq] at h g
   omega
theorem leC.not_newer {a b:Cel} (h:leC a b):newerB a b=false:=by
 rcases h with rfl | h
 ·exact newer_irrefl _
 ·exact newer_not h
theorem bestF_ge {S:Cel→Prop} (f:Fa S) (k:Nat) (l:List Rp) (h:∀ r∈l,S (r.get k)):leC Cel.zero (bestL k l)∧∀ r∈l,leC (r.get k) (bestL k l):=by
 have:∀ (l:List Rp) (b:Cel),S b→(∀ r∈l,S (r.get k))→leC b (l.foldl (fun b r=>if newerB (r.get k) b then r.get k else b) b)∧∀ r∈l,leC (r.get k) (l.foldl (fun b r=>if newerB (r.get k) b then r.get k else b) b):=by
  intro l
  induction l with
  | nil=>intro b _ _; exact ⟨.inl rfl,fun r hr=>by cases hr⟩
  | cons r l ih =>
   intro b hb hl
   have hr:=hl r (by simp)
   obtain ⟨i1,i2⟩:=ih (if newerB (r.get k) b then r.get k else b) (by split <;> assumption) (fun q hq=>hl q (by simp [hq]))
   have hbr:leC b (if newerB (r.get k) b then r.get k else b)∧leC (r.get k) (if newerB (r.get k) b then r.get k else b):=by
    split
    ·rename_i hn
     exact ⟨.inr hn,.inl rfl⟩
    ·rename_i hn
     exact ⟨.inl rfl,f.total hr hb (by simpa using hn)⟩
   refine ⟨hbr.1.trans i1,fun q hq=>?_⟩
   rcases List.mem_cons.1 hq with rfl | hq
   ·exact hbr.2.trans i1
   ·exact i2 q hq
 exact this l _ f.z h
theorem bestF_mem (k:Nat) (l:List Rp):bestL k l=Cel.zero∨∃ r∈l,bestL k l=r.get k:=by
 have:∀ (l:List Rp) (b:Cel),l.foldl (fun b r=>if newerB (r.get k) b then r.get k else b) b=b∨∃ r∈l,l.foldl (fun b r=>if newerB (r.get k) b then r.get k else b) b=r.get k:=by
  intro l
  induction l with
  | nil=>intro b; exact .inl rfl
  | cons r l ih =>
   intro b
   simp only [List.foldl_cons]
   rcases ih (if newerB (r.get k) b then r.get k else b) with h | ⟨q,hq,h⟩
   ·rw [h]
    split
    ·exact .inr ⟨r,by simp,rfl⟩
    ·exact .inl rfl
   ·exact .inr ⟨q,by simp [hq],h⟩
 exact this l _
theorem bestF_const {k:Nat} {l:List Rp} {c:Cel} (h:∀ r∈l,r.get k=c) (hz:leC Cel.zero c) (hl:l≠[]):bestL k l=c:=by
 cases l with
 | nil=>exact absurd rfl hl
 | cons r l =>
  have:∀ (l:List Rp),(∀ r∈l,r.get k=c)→l.foldl (fun b r=>if newerB (r.get k) b then r.get k else b) c=c:=by
   intro l
   induction l with
   | nil=>intro _; rfl
   | cons r l ih =>
    intro h
    simp only [List.foldl_cons]
    rw [h r (by simp),newer_irrefl]
    exact ih (fun q hq=>h q (by simp [hq]))
  unfold bestL
  simp only [List.foldl_cons]
  rw [h r (by simp)]
  have e:(if newerB c Cel.zero then c else Cel.zero)=c:=by
   rcases hz with h | h
   ·rw [h]; split <;> rfl
   ·rw [h]; rfl
  rw [e]
  exact this l (fun q hq=>h q (by simp [hq]))
theorem frm_ne {g:Gp} {ep:Int} (h:2≤(g.mem ep).length):g.frm ep≠[]:=by
 intro e
 have:(g.frm ep).length=(g.mem ep).length:=by unfold Gp.frm; simp
 rw [e] at this
 simp at this
 omega
def Two (was:Cel) (k:Nat) (g:Gp):Prop:=∃ i j,i<j∧j<3∧leC was (valG g k i)∧leC was (valG g k j)
theorem Two.best {S:Cel→Prop} {was:Cel} {k:Nat} {g:Gp} (f:Fa S) (hA:AllC S g) (h:Two was k g) {ep:Int} (hm:2≤(g.mem ep).length):leC was (bestL k (g.frm ep)):=by
 have hb:=(bestF_ge f k (g.frm ep) (fun r hr=>by
  obtain ⟨i,-,-,rfl⟩:=frm_mem hr
  exact valG_S hA f.z k i)).2
 obtain ⟨i,j,hij,hj,hi1,hj1⟩:=h
 rcases mem_two hm hij hj with e | e
 ·exact hi1.trans (hb _ (mem_frm (by omega) e))
 ·exact hj1.trans (hb _ (mem_frm hj e))
theorem Two.mono {was:Cel} {k:Nat} {g h:Gp} (t:Two was k g) (hv:∀ j,j<3→leC was (valG g k j)→leC was (valG h k j)):Two was k h:=by
 obtain ⟨i,j,hij,hj,h1,h2⟩:=t
 exact ⟨i,j,hij,hj,hv i (by omega) h1,hv j hj h2⟩
theorem valG_sync {g:Gp} (hg:g.ok) (ep:Int) {i:Nat} (hi:i<3) {k:Nat} (hk:k<8) (j:Nat):valG (g.sync ep i) k j=if g.syncs ep i=true∧j=i then bestL k (g.frm ep) else valG g k j:=by
 unfold Gp.sync
 split
 ·rename_i hs
  rw [valG_setR (by rw [hg.r3]; exact hi)]
  by_cases hj:j=i
  ·rw [if_pos hj,if_pos ⟨hs,hj⟩]
   show (mergeL (g.frm ep)).getD k Cel.zero=_
   exact mergeL_get _ k hk
  ·rw [if_neg hj,if_neg (fun e=>hj e.2)]
 ·rename_i hs
  rw [if_neg (fun e=>hs e.1)]
theorem syncs_mem {g:Gp} {ep:Int} {i:Nat} (h:g.syncs ep i=true):g.u.getD i false=true∧2≤(g.mem ep).length∧flG g i<ep:=by
 unfold Gp.syncs at h
 simp only [Bool.and_eq_true,decide_eq_true_eq] at h
 exact ⟨h.1.1,h.1.2,h.2⟩
theorem Two.sync {S:Cel→Prop} {was:Cel} {k:Nat} {g:Gp} (f:Fa S) (hA:AllC S g) (hg:g.ok) (h:Two was k g) (ep:Int) {i:Nat} (hi:i<3) (hk:k<8):Two was k (g.sync ep i) :=
 h.mono fun j _ hv=>by
  rw [valG_sync hg ep hi hk]
  split
  ·rename_i hs
   exact h.best f hA (syncs_mem hs.1).2.1
  ·exact hv
theorem valG_deliver_any {g:Gp} (hg:g.ok) {i k k':Nat} (hi:i<3) (hk':k'<8) (c:Cel) (j:Nat):valG (g.deliver i k' c) k j=if g.delivers i c=true∧newerB c (valG g k' i)=true∧j=i∧k=k' then c else valG g k j:=by
 unfold Gp.deliver
 split
 ·rename_i hu
  rw [valG_setR (by rw [hg.r3]; exact hi)]
  by_cases hj:j=i
  ·subst hj
   rw [if_pos rfl]
   unfold Rp.admitC
   by_cases hc:c.e=(g.r.getD j Rp.zero).floor∧newerB c ((g.r.getD j Rp.zero).get k')=true
   ·have hd:g.delivers j c=true:=by unfold Gp.delivers; rw [hu,decide_eq_true hc.1]; rfl
    rw [if_pos hc]
    by_cases hkk:k=k'
    ·subst hkk
     rw [if_pos ⟨hd,hc.2,rfl,rfl⟩,Rp.get_set c (by rw [Gp.getR hg hi]; exact hk')]
    ·rw [if_neg (fun e=>hkk e.2.2.2)]
     show (List.set _ k' c).getD k Cel.zero=_
     rw [List.getD_eq_getElem?_getD,List.getElem?_set_ne (Ne.symm hkk)]
     unfold valG Rp.get
     simp only [List.getD_eq_getElem?_getD]
   ·rw [if_neg hc,if_neg]
    ·rfl
    ·rintro ⟨h1,h2,-⟩
     unfold Gp.delivers at h1
     simp only [Bool.and_eq_true,decide_eq_true_eq] at h1
     exact hc ⟨h1.2,h2⟩
  ·rw [if_neg hj,if_neg (fun e=>hj e.2.2.1)]
 ·rename_i hu
  rw [if_neg]
  rintro ⟨h1,-⟩
  unfold Gp.delivers at h1
  simp only [Bool.and_eq_true,decide_eq_true_eq] at h1
  exact hu h1.1
theorem Two.deliver {was:Cel} {k:Nat} {g:Gp} (hg:g.ok) (h:Two was k g) {i k':Nat} (hi:i<3) (hk':k'<8) (c:Cel):Two was k (g.deliver i k' c) :=
 h.mono fun j _ hv=>by
  rw [valG_deliver_any hg hi hk']
  split
  ·rename_i hc
   rw [hc.2.2.1,hc.2.2.2] at hv
   exact hv.trans (.inr hc.2.1)
  ·exact hv
theorem Two.fence {was:Cel} {k:Nat} {g:Gp} (hg:g.ok) (h:Two was k g) (ep:Int):Two was k (g.fence ep) :=
 h.mono fun j _ hv=>by rw [valG_fence hg]; exact hv
theorem valG_read {g:Gp} (hg:g.ok) {ep:Int} {k:Nat} (hk:k<8) (hm:2≤(g.mem ep).length) {j:Nat} (hj:j<3):valG (g.read ep k) k j=if g.isM ep j=true then bestL k (g.frm ep) else valG g k j:=by
 have hr:g.read ep k=g.putAll k (g.readC ep k) (g.mem ep):=if_pos hm
 have hc:g.readC ep k=bestL k (g.frm ep):=if_pos hm
 rw [hr,valG_putAll hk _ _ _ _ hg mem_nat,hc]
 by_cases h:g.isM ep j=true
 ·rw [if_pos h,if_pos (isM_in hj h)]
 ·rw [if_neg h,if_neg]
  intro hin
  obtain ⟨i,e,_,hM⟩:=Gp.mem_lt hin
  have:j=i:=by omega
  exact h (this▸hM)
theorem putAll_other {k k':Nat} (hkk:k≠k') (c:Cel) (j:Nat):∀ (l:List Int) (g:Gp),g.ok→(∀ x∈l,∃ i:Nat,x=i∧i<3)→valG (g.putAll k' c l) k j=valG g k j
 | [],g,_,_=>rfl
 | x :: l,g,hg,hl=>by
  obtain ⟨i,rfl,hi⟩:=hl x (by simp)
  have ih:=putAll_other hkk c j l (g.put1 k' c i) (Gp.put1_ok hg k' c hi) (fun y hy=>hl y (by simp [hy]))
  have e:g.putAll k' c ((i:Int) :: l)=(g.put1 k' c i).putAll k' c l:=rfl
  rw [e,ih]
  unfold Gp.put1
  rw [show (i:Int).toNat=i from rfl,valG_setR (by rw [hg.r3]; exact hi)]
  split
  ·rename_i hj; subst hj
   show (List.set _ k' c).getD k Cel.zero=_
   rw [List.getD_eq_getElem?_getD,List.getElem?_set_ne (Ne.symm hkk)]
   unfold valG Rp.get
   simp only [List.getD_eq_getElem?_getD]
  ·rfl
theorem valG_read_other {g:Gp} (hg:g.ok) (ep:Int) {k k':Nat} (hkk:k≠k') (j:Nat):valG (g.read ep k') k j=valG g k j:=by
 unfold Gp.read
 split
 ·exact putAll_other hkk _ j _ g hg mem_nat
 ·rfl
theorem Two.read {S:Cel→Prop} {was:Cel} {k:Nat} {g:Gp} (f:Fa S) (hA:AllC S g) (hg:g.ok) (h:Two was k g) (ep:Int) (k':Nat) (hk:k<8):Two was k (g.read ep k'):=by
 by_cases hm:2≤(g.mem ep).length
 ·by_cases hkk:k=k'
  ·subst hkk
   exact h.mono fun j hj hv=>by
    rw [valG_read hg hk hm hj]
    split
    ·exact h.best f hA hm
    ·exact hv
  ·exact h.mono fun j _ hv=>by rw [valG_read_other hg ep hkk]; exact hv
 ·rw [show g.read ep k'=g from if_neg hm]; exact h
theorem AllC.read {S:Cel→Prop} {g:Gp} (h:AllC S g) (hz:S Cel.zero) (ep:Int) (k:Nat):AllC S (g.read ep k):=by
 by_cases hm:2≤(g.mem ep).length
 ·rw [show g.read ep k=g.putAll k (g.readC ep k) (g.mem ep) from if_pos hm]
  refine AllC.putAll hz k ?_ _ _ h
  rw [show g.readC ep k=bestL k (g.frm ep) from if_pos hm]
  refine bestL_S hz k _ (fun r hr=>?_)
  obtain ⟨i,-,-,rfl⟩:=frm_mem hr
  exact valG_S h hz k i
 ·rw [show g.read ep k=g from if_neg hm]; exact h
end Go.Proofs.YtajegiifabfcjaaGreatDoor

namespace Go.Proofs.YtajegiifabfcjaaGreatDoor
open Go.RowKit
theorem keyOf_filter_keep (x:Int) (p:Int × Int→Bool):∀ (l:List (Int × Int)),(∀ r∈l,r.1=x→p r=true)→keyOf (l.filter p) x=keyOf l x
 | [],_=>rfl
 | r :: l,h=>by
  have ih:=keyOf_filter_keep x p l (fun y hy=>h y (by simp [hy]))
  by_cases hr:r.1=x
  ·rw [List.filter_cons_of_pos (h r (by simp) hr)]
   unfold keyOf; rw [if_pos hr,if_pos hr]
  ·have e:keyOf (r :: l) x=keyOf l x:=by rw [keyOf,if_neg hr]
   rw [e]
   cases hp:p r
   ·rw [List.filter_cons_of_neg (by simp [hp])]; exact ih
   ·rw [List.filter_cons_of_pos hp,keyOf,if_neg hr]; exact ih
theorem keyOf_in:∀ {l:List (Int × Int)},l.Pairwise (fun a b=>a.1<b.1)→∀ r∈l,keyOf l r.1=r.2
 | x :: l,hp,r,hr=>by
  rw [List.pairwise_cons] at hp
  unfold keyOf
  rcases List.mem_cons.1 hr with rfl | h
  ·rw [if_pos rfl]
  ·have:=hp.1 r h
   rw [if_neg (by omega)]
   exact keyOf_in hp.2 r h
theorem ne_nil_of_key {l:List (Int × Int)} {x:Int} (h:keyOf l x≠0):l≠[]:=by rintro rfl; exact h rfl
theorem pknown_iff (s:St) (c:Cmd):pknown s c=true ↔ 0<c.key∧keyOf s.regs c.who=c.key:=by
 unfold pknown; rw [Bool.and_eq_true,decide_eq_true_eq,decide_eq_true_eq]
structure DoOk (s:St) (c:Cmd) (r:St) (lt:List (Int × Int)) (r0:St):Prop where
 op:c.op≤6
 one:c.op=1→keyOf s.regs c.who=c.key
 known:2<c.op→0<c.key∧keyOf s.regs c.who=c.key
 acts:pacts s c=(r0,lt,0)
 res:r.regs=r0.regs∧r.typ=r0.typ∧r.holder=r0.holder∧r.stays=r0.stays∧(r.gen=r0.gen∨r.gen=r0.next.gen)
theorem pdo_ok {s:St} {c:Cmd} {r:St} {lt:List (Int × Int)} (h:pdo s c=(r,lt,0)):∃ r0,DoOk s c r lt r0:=by
 unfold pdo at h
 by_cases h6:6<c.op
 ·rw [if_pos h6] at h; cases h
 rw [if_neg h6] at h
 by_cases hd:(c.op=1∧keyOf s.regs c.who≠c.key)∨(2<c.op∧pknown s c=false)
 ·rw [if_pos hd] at h; cases h
 rw [if_neg hd] at h
 have h1:c.op=1→keyOf s.regs c.who=c.key:=fun h=>by
  by_cases e:keyOf s.regs c.who=c.key
  ·exact e
  ·exact absurd (.inl ⟨h,e⟩) hd
 have h2:2<c.op→0<c.key∧keyOf s.regs c.who=c.key:=fun h=>by
  cases e:pknown s c
  ·exact absurd (.inr ⟨h,e⟩) hd
  ·exact (pknown_iff s c).1 e
 by_cases hf:(pacts s c).2.2≠0
 ·rw [if_pos hf] at h
  simp only [Prod.mk.injEq] at h
  exact absurd h.2.2 hf
 rw [if_neg hf] at h
 have hf':(pacts s c).2.2=0:=by omega
 refine ⟨(pacts s c).1,⟨by omega,h1,h2,?_,?_⟩⟩
 ·split at h
  ·simp only [Prod.mk.injEq] at h; rw [← h.2.1,← hf']
  ·simp only [Prod.mk.injEq] at h; rw [← h.2.1,← hf']
 ·split at h
  ·simp only [Prod.mk.injEq] at h; rw [← h.1]; exact ⟨rfl,rfl,rfl,rfl,.inr rfl⟩
  ·simp only [Prod.mk.injEq] at h; rw [← h.1]; exact ⟨rfl,rfl,rfl,rfl,.inl rfl⟩
theorem good_free {s:St} (hg:0≤s.gen∧s.gen≤1000000000) (hb:∀ r∈s.regs,1≤r.1∧r.1≤4∧1≤r.2∧r.2≤999) (hs:s.regs.Pairwise (fun a b=>a.1<b.1)):Good s.free :=
 ⟨hg,hb,hs,fun _=>rfl,fun h=>absurd rfl h,fun h=>absurd h (by simp [St.free]),fun h=>absurd rfl h⟩
theorem typ_pos {s:St} (g:Good s) (h:s.typ≠0):0<s.typ∧s.typ≤8:=by have:=g.typ h; simp [typeMay] at this; omega
theorem allT_typ {s:St} (g:Good s):allT s.typ=true ↔ 7≤s.typ:=by rw [allT_ge (typ_or g)]; simp
theorem Good.kpos {s:St} (g:Good s) {x:Int} (h:keyOf s.regs x≠0):0<keyOf s.regs x:=by
 have:=keyOf_nonneg x s.regs (fun r hr=>(g.bounds r hr).2.2.1); omega
theorem good_register {s:St} (g:Good s) {c:Cmd} (hc:CmdOk c):Good (pregister s c).1:=by
 have hb:∀ r∈withL s.regs c.who c.new,1≤r.1∧r.1≤4∧1≤r.2∧r.2≤999:=by
  intro r hr
  rcases mem_with hr with ⟨rfl,h⟩ | ⟨h,_⟩
  ·have:=hc.who; have:=hc.new; dsimp only; omega
  ·exact g.bounds r h
 have hs:=sorted_with c.who c.new g.sorted
 unfold pregister
 dsimp only
 by_cases h1:0<c.new∨holds s c.who=false
 ·rw [if_pos h1]
  have hk:∀ x,x≠c.who→keyOf (withL s.regs c.who c.new) x=keyOf s.regs x:=fun x hx=>keyOf_with _ _ _ _ hx
  refine ⟨g.gen,hb,hs,g.zero,g.typ,fun h7=>⟨(g.all h7).1,?_⟩,fun h0 h7=>?_⟩
  ·by_cases hn:0<c.new
   ·exact ne_nil_of_key (x:=c.who) (by show keyOf (withL s.regs c.who c.new) c.who≠0; rw [keyOf_with_self _ _ _ (by omega)]; omega)
   ·have hh:holds s c.who=false:=h1.resolve_left hn
    have h78:s.typ=7∨s.typ=8:=by have:=g.typ (by have:7≤s.typ:=h7; omega); have h7':7≤s.typ:=h7; simp [typeMay] at this; omega
    have hk0:¬ 0<keyOf s.regs c.who:=by simpa [holds,h78] using hh
    have hno:∀ r∈s.regs,r.1≠c.who:=by
     rintro r hr e
     have h:=keyOf_of_mem s.regs (fun r hr=>(g.bounds r hr).2.2.1) r hr
     rw [e] at h
     exact hk0 (g.kpos h)
    have e:withL s.regs c.who c.new=s.regs:=by unfold withL; rw [if_neg hn]; exact without_all _ _ hno
    show withL s.regs c.who c.new≠[]
    rw [e]; exact (g.all h7).2
  ·show keyOf (withL s.regs c.who c.new) s.holder≠0
   have h0':s.typ≠0:=h0
   have h7':s.typ<7:=h7
   by_cases he:s.holder=c.who
   ·by_cases hn:0<c.new
    ·rw [he,keyOf_with_self _ _ _ (by omega)]; omega
    ·have hh:holds s c.who=false:=h1.resolve_left hn
     have:=typ_pos g h0'
     have h78:¬ (s.typ=7∨s.typ=8):=by omega
     simp [holds,h78,he] at hh
     omega
   ·rw [hk _ he]; exact g.one h0' h7'
 ·rw [if_neg h1]
  by_cases h2:allT s.typ=true∧0<((s.withRegs (withL s.regs c.who c.new)).withStays c.stays).regs.length
  ·rw [if_pos h2]
   have h7:=(allT_typ g).1 h2.1
   refine ⟨g.gen,hb,hs,g.zero,g.typ,fun _=>⟨(g.all h7).1,fun e=>?_⟩,fun _ h=>?_⟩
   ·have:=h2.2; rw [e] at this; simp at this
   ·have h':s.typ<7:=h; omega
  ·rw [if_neg h2]
   split <;> exact good_free (s:=(s.withRegs (withL s.regs c.who c.new)).withStays c.stays) g.gen hb hs
theorem good_reserve {s:St} (g:Good s) {c:Cmd} (ht:typeMay c.typ=true) (hk:0<c.key∧keyOf s.regs c.who=c.key):Good (preserve s c).1:=by
 unfold preserve
 split
 ·split <;> exact g
 ·have ht':c.typ=1∨c.typ=3∨5≤c.typ∧c.typ≤8:=by simpa [typeMay] using ht
  refine ⟨g.gen,g.bounds,g.sorted,fun h=>?_,fun _=>ht,fun h=>⟨?_,?_⟩,fun _ h=>?_⟩
  ·have h':c.typ=0:=h; omega
  ·have h':7≤c.typ:=h
   show (if allT c.typ=true then (0:Int) else c.who)=0
   rw [if_pos (by rw [allT_ge (.inr ht)]; simpa using h')]
  ·exact ne_nil_of_key (x:=c.who) (by show keyOf s.regs c.who≠0; omega)
  ·have h':c.typ<7:=h
   show keyOf s.regs (if allT c.typ=true then (0:Int) else c.who)≠0
   rw [if_neg (by rw [allT_ge (.inr ht)]; simp; omega)]; omega
theorem good_release {s:St} (g:Good s) (c:Cmd):Good (prelease s c).1:=by
 unfold prelease
 repeat' split
 all_goals (first | exact g | exact good_free g.gen g.bounds g.sorted)
theorem out_list {s:St} (g:Good s) (who key:Int):putOut s.regs (goneL who key s.regs)=s.regs.filter (fun r=>!outB who key r):=putOut_gone g.sorted who key
theorem out_mem {s:St} (g:Good s) {who key:Int} {x:Int × Int} (h:x∈putOut s.regs (goneL who key s.regs)):x∈s.regs∧outB who key x=false:=by
 rw [out_list g] at h
 have:=List.mem_filter.1 h
 exact ⟨this.1,by simpa using this.2⟩
theorem out_self {s:St} (g:Good s) (who key:Int):keyOf (putOut s.regs (goneL who key s.regs)) who=keyOf s.regs who:=by
 rw [out_list g]
 exact keyOf_filter_keep _ _ _ (fun r _ e=>by simp [outB,e])
theorem out_good {s:St} (g:Good s) (who key:Int):(∀ r∈putOut s.regs (goneL who key s.regs),1≤r.1∧r.1≤4∧1≤r.2∧r.2≤999)∧(putOut s.regs (goneL who key s.regs)).Pairwise (fun a b=>a.1<b.1) :=
 ⟨fun r hr=>g.bounds r (out_mem g hr).1,by rw [out_list g]; exact g.sorted.filter _⟩
theorem preempt_ok {s:St} {c:Cmd} {r0:St} {lt:List (Int × Int)} (h:ppreempt s c=(r0,lt,0)) :
  (ptakes s c=true∧r0=(s.withRegs (putOut s.regs (goneL c.who c.new s.regs))).free.take c.typ c.who∧lt=toldL (goneL c.who c.new s.regs) 1 ++ (if s.typ≠c.typ then toldL (othersL c.who (putOut s.regs (goneL c.who c.new s.regs))) 2 else [])) ∨
  (ptakes s c=false∧c.new≠0∧r0=s.withRegs (putOut s.regs (goneL c.who c.new s.regs))∧lt=toldL (goneL c.who c.new s.regs) 1):=by
 unfold ppreempt at h
 split at h
 ·cases h
 ·rename_i h1
  dsimp only at h
  cases ht:ptakes s c
  ·rw [if_pos ht] at h
   split at h
   ·cases h
   ·cases h; exact .inr ⟨rfl,fun e=>h1 ⟨e,ht⟩,rfl,rfl⟩
  ·rw [if_neg (by rw [ht]; simp)] at h
   cases h; exact .inl ⟨rfl,rfl,rfl⟩
theorem good_preempt {s:St} (g:Good s) {c:Cmd} (ht:typeMay c.typ=true) (hk:0<c.key∧keyOf s.regs c.who=c.key) {r0:St} {lt:List (Int × Int)} (h:ppreempt s c=(r0,lt,0)):Good r0:=by
 obtain ⟨hb,hs⟩:=out_good g c.who c.new
 have hself:=out_self g c.who c.new
 have ht':c.typ=1∨c.typ=3∨5≤c.typ∧c.typ≤8:=by simpa [typeMay] using ht
 rcases preempt_ok h with ⟨-,rfl,-⟩ | ⟨htk,hn,rfl,-⟩
 ·refine ⟨g.gen,hb,hs,fun h=>?_,fun _=>ht,fun h=>⟨?_,?_⟩,fun _ h=>?_⟩
  ·have h':c.typ=0:=h; omega
  ·have h':7≤c.typ:=h
   show (if allT c.typ=true then (0:Int) else c.who)=0
   rw [if_pos (by rw [allT_ge (.inr ht)]; simpa using h')]
  ·exact ne_nil_of_key (x:=c.who) (by show keyOf (putOut s.regs (goneL c.who c.new s.regs)) c.who≠0; omega)
  ·have h':c.typ<7:=h
   show keyOf (putOut s.regs (goneL c.who c.new s.regs)) (if allT c.typ=true then (0:Int) else c.who)≠0
   rw [if_neg (by rw [allT_ge (.inr ht)]; simp; omega)]; omega
 ·refine ⟨g.gen,hb,hs,g.zero,g.typ,fun h=>⟨(g.all h).1,?_⟩,fun h0 h7=>?_⟩
  ·exact ne_nil_of_key (x:=c.who) (by show keyOf (putOut s.regs (goneL c.who c.new s.regs)) c.who≠0; omega)
  ·have h0':s.typ≠0:=h0
   have h7':s.typ<7:=h7
   have hp:=typ_pos g h0'
   have ha:allT s.typ=false:=by
    cases e:allT s.typ
    ·rfl
    ·have:=(allT_typ g).1 e; omega
   have hkn:keyOf s.regs s.holder≠c.new:=by
    intro e
    simp [ptakes,ha,hp.1,e] at htk
   show keyOf (putOut s.regs (goneL c.who c.new s.regs)) s.holder≠0
   rw [out_list g,keyOf_filter_keep]
   ·exact g.one h0' h7'
   ·intro r hr e
    have:=keyOf_in g.sorted r hr
    rw [e] at this
    have h2:r.2≠c.new:=by rw [← this]; exact hkn
    simp [outB,hn,h2]
theorem good_acts {s:St} (g:Good s) {c:Cmd} (hc:CmdOk c) {r r0:St} {lt:List (Int × Int)} (h:DoOk s c r lt r0):Good r0:=by
 have ha:=h.acts
 unfold pacts at ha
 split at ha
 ·cases ha; exact good_register g hc
 ·split at ha
  ·rename_i h3
   simp only [Prod.mk.injEq] at ha; rw [← ha.1]
   exact good_reserve g (hc.typ (.inl h3)) (h.known (by omega))
  ·split at ha
   ·have e:r0=(prelease s c).1:=by rw [ha]
    rw [e]; exact good_release g c
   ·split at ha
    ·cases ha
     exact ⟨g.gen,fun r hr=>by simp [St.withRegs] at hr,by simp [St.withRegs],fun _=>rfl,fun h=>absurd rfl h,fun h=>absurd h (by simp [St.withRegs,St.free]),fun h=>absurd rfl h⟩
    ·split at ha
     ·rename_i h6
      exact good_preempt g (hc.typ (.inr (.inr h6))) (h.known (by omega)) ha
     ·cases ha; exact g
theorem good_res {s r r0:St} {c:Cmd} {lt:List (Int × Int)} (h:DoOk s c r lt r0) (g:Good r0):Good r:=by
 obtain ⟨e1,e2,e3,e4,e5⟩:=h.res
 refine ⟨?_,by rw [e1]; exact g.bounds,by rw [e1]; exact g.sorted,by rw [e2,e3]; exact g.zero,by rw [e2]; exact g.typ,by rw [e1,e2,e3]; exact g.all,by rw [e1,e2,e3]; exact g.one⟩
 have:=g.gen
 rcases e5 with e | e
 ·rw [e]; exact this
 ·rw [e]; unfold St.next; dsimp only; split <;> omega
theorem do_order {s:St} (g:Good s) {c:Cmd} (hc:CmdOk c) {r:St} {lt:List (Int × Int)} (h:pdo s c=(r,lt,0)):Good r∧(c.op=2∨keyOf s.regs c.who=c.key):=by
 obtain ⟨r0,hr⟩:=pdo_ok h
 refine ⟨good_res hr (good_acts g hc hr),?_⟩
 have:=hc.op
 rcases (by omega:c.op=1∨c.op=2∨2<c.op) with h1 | h1 | h1
 ·exact .inr (hr.one h1)
 ·exact .inl h1
 ·exact .inr (hr.known h1).2
end Go.Proofs.YtajegiifabfcjaaGreatDoor

namespace Go.Proofs.YtajegiifabfcjaaGreatDoor
open Go.RowKit
def toldTo (lt:List (Int × Int)) (who:Int):Int:=lt.foldl (fun t x=>if x.1=who then x.2 else t) 0
theorem told_none (who:Int):∀ (l:List (Int × Int)) (t:Int),(∀ x∈l,x.1≠who)→l.foldl (fun t x=>if x.1=who then x.2 else t) t=t
 | [],_,_=>rfl
 | x :: l,t,h=>by
  rw [List.foldl_cons,if_neg (h x (by simp))]
  exact told_none who l t (fun y hy=>h y (by simp [hy]))
theorem told_mem (who v:Int):∀ (l:List (Int × Int)) (t:Int),l.Pairwise (fun a b=>a.1≠b.1)→(who,v)∈l→l.foldl (fun t x=>if x.1=who then x.2 else t) t=v
 | x :: l,t,hp,hm=>by
  rw [List.pairwise_cons] at hp
  rw [List.foldl_cons]
  rcases List.mem_cons.1 hm with rfl | hm
  ·rw [if_pos rfl]
   exact told_none who l v (fun y hy e=>hp.1 y hy e.symm)
  ·exact told_mem who v l _ hp.2 hm
theorem toldTo_mem {lt:List (Int × Int)} {who v:Int} (hp:lt.Pairwise (fun a b=>a.1≠b.1)) (h:(who,v)∈lt):toldTo lt who=v:=told_mem who v lt 0 hp h
theorem toldL_mem {l:List Int} {v:Int} {x:Int × Int} (h:x∈toldL l v):x.1∈l∧x.2=v:=by
 unfold toldL at h
 obtain ⟨y,hy,rfl⟩:=List.mem_map.1 h
 exact ⟨hy,rfl⟩
theorem toldL_in {l:List Int} {v x:Int} (h:x∈l):(x,v)∈toldL l v:=List.mem_map.2 ⟨x,h,rfl⟩
theorem toldL_dist {l:List Int} (v:Int) (h:l.Pairwise (·<·)):(toldL l v).Pairwise (fun a b=>a.1≠b.1):=by
 unfold toldL
 rw [List.pairwise_map]
 exact h.imp (fun h=>by dsimp only; omega)
theorem gone_sorted {l:List (Int × Int)} (hp:l.Pairwise (fun a b=>a.1<b.1)) (who key:Int):(goneL who key l).Pairwise (·<·):=by
 unfold goneL
 rw [List.pairwise_map]
 exact hp.filter _
theorem gone_in {l:List (Int × Int)} {who key x:Int} (h:x∈goneL who key l):∃ r∈l,r.1=x∧outB who key r=true:=by
 unfold goneL at h
 obtain ⟨r,hr,rfl⟩:=List.mem_map.1 h
 obtain ⟨h1,h2⟩:=List.mem_filter.1 hr
 exact ⟨r,h1,rfl,h2⟩
theorem others_in {l:List (Int × Int)} {who:Int} {r:Int × Int} (h:r∈l) (hw:r.1≠who):r.1∈othersL who l:=by
 unfold othersL without
 exact List.mem_map.2 ⟨r,List.mem_filter.2 ⟨h,by simpa using hw⟩,rfl⟩
theorem preserve_regs (s:St) (c:Cmd):(preserve s c).1.regs=s.regs:=by unfold preserve; (repeat' split) <;> rfl
structure ToldF (s t:St) (who:Int) (lt:List (Int × Int)):Prop where
 mem:∀ x∈lt,x.1≠who∧keyOf s.regs x.1≠0
 dist:lt.Pairwise (fun a b=>a.1≠b.1)
 lost:∀ r∈s.regs,r.1≠who→¬ 0<keyOf t.regs r.1→toldTo lt r.1=1∨toldTo lt r.1=3
theorem ToldF.kept {s t:St} {who:Int} {lt:List (Int × Int)} (g:Good s) (mem:∀ x∈lt,x.1≠who∧keyOf s.regs x.1≠0) (dist:lt.Pairwise (fun a b=>a.1≠b.1)) (h:∀ x,x≠who→keyOf t.regs x=keyOf s.regs x):ToldF s t who lt :=
 ⟨mem,dist,fun r hr hw hk=>by
  exfalso
  apply hk
  rw [h _ hw]
  exact g.kpos (keyOf_of_mem s.regs (fun r hr=>(g.bounds r hr).2.2.1) r hr)⟩
theorem Good.key_mem {s:St} (g:Good s) {r:Int × Int} (h:r∈s.regs):keyOf s.regs r.1≠0:=keyOf_of_mem s.regs (fun r hr=>(g.bounds r hr).2.2.1) r h
theorem do_told {s:St} (g:Good s) {c:Cmd} {r:St} {lt:List (Int × Int)} (h:pdo s c=(r,lt,0)) (hop:1≤c.op):ToldF s r c.who lt:=by
 obtain ⟨r0,hr⟩:=pdo_ok h
 have ha:=hr.acts
 have h6:=hr.op
 obtain ⟨e1,e2,e3,-,-⟩:=hr.res
 have nil:∀ x∈([]:List (Int × Int)),x.1≠c.who∧keyOf s.regs x.1≠0:=fun x hx=>by simp at hx
 have oth:∀ v,∀ x∈toldL (othersL c.who s.regs) v,x.1≠c.who∧keyOf s.regs x.1≠0:=by
  intro v x hx
  obtain ⟨h1,r,hr,e⟩:=others_mem (toldL_mem hx).1
  exact ⟨h1,by rw [← e]; exact g.key_mem hr⟩
 rcases (by omega:(c.op=1∨c.op=2)∨c.op=3∨c.op=4∨c.op=5∨c.op=6) with h1 | h1 | h1 | h1 | h1
 ·unfold pacts at ha
  rw [if_pos h1] at ha
  have hreg:(pregister s c).1.regs=withL s.regs c.who c.new:=by unfold pregister; dsimp only; (repeat' split) <;> rfl
  have hlt:(pregister s c).2=[]∨(pregister s c).2=toldL (othersL c.who (withL s.regs c.who c.new)) 2:=by
   unfold pregister; dsimp only
   repeat' split
   all_goals (first | exact .inl rfl | exact .inr rfl)
  simp only [Prod.mk.injEq,and_true] at ha
  obtain ⟨a1,a2⟩:=ha
  rw [a1] at hreg
  rw [a2] at hlt
  have hk:∀ x,x≠c.who→keyOf r.regs x=keyOf s.regs x:=fun x hx=>by rw [e1,hreg]; exact keyOf_with _ _ _ _ hx
  rcases hlt with rfl | rfl
  ·exact ToldF.kept g nil List.Pairwise.nil hk
  ·rw [others_with]
   exact ToldF.kept g (oth 2) (toldL_dist 2 (others_sorted g.sorted)) hk
 ·unfold pacts at ha
  rw [if_neg (by omega),if_pos h1] at ha
  simp only [Prod.mk.injEq] at ha
  obtain ⟨a1,rfl,a3⟩:=ha
  have:=(preserve_regs s c)
  rw [a1] at this
  exact ToldF.kept g nil List.Pairwise.nil (fun x _=>by rw [e1,this])
 ·unfold pacts at ha
  rw [if_neg (by omega),if_neg (by omega),if_pos h1] at ha
  have hreg:r0.regs=s.regs∧(lt=[]∨lt=toldL (othersL c.who s.regs) 2):=by
   unfold prelease at ha
   repeat' split at ha
   all_goals (first | (cases ha; done) | (cases ha; exact ⟨rfl,.inl rfl⟩) | (cases ha; exact ⟨rfl,.inr rfl⟩))
  obtain ⟨h2,rfl | rfl⟩:=hreg
  ·exact ToldF.kept g nil List.Pairwise.nil (fun x _=>by rw [e1,h2])
  ·exact ToldF.kept g (oth 2) (toldL_dist 2 (others_sorted g.sorted)) (fun x _=>by rw [e1,h2])
 ·unfold pacts at ha
  rw [if_neg (by omega),if_neg (by omega),if_neg (by omega),if_pos h1] at ha
  cases ha
  exact ⟨oth 3,toldL_dist 3 (others_sorted g.sorted),fun r hr hw _=>.inr (toldTo_mem (toldL_dist 3 (others_sorted g.sorted)) (toldL_in (others_in hr hw)))⟩
 ·unfold pacts at ha
  rw [if_neg (by omega),if_neg (by omega),if_neg (by omega),if_neg (by omega),if_pos h1] at ha
  have hgone:∀ x∈toldL (goneL c.who c.new s.regs) 1,x.1≠c.who∧keyOf s.regs x.1≠0:=by
   intro x hx
   obtain ⟨r,hr,e,ho⟩:=gone_in (toldL_mem hx).1
   unfold outB at ho
   rw [decide_eq_true_eq] at ho
   exact ⟨by rw [← e]; exact ho.1,by rw [← e]; exact g.key_mem hr⟩
  have hoth:∀ x∈toldL (othersL c.who (putOut s.regs (goneL c.who c.new s.regs))) 2,x.1≠c.who∧keyOf s.regs x.1≠0:=by
   intro x hx
   obtain ⟨h1,r,hr,e⟩:=others_mem (toldL_mem hx).1
   exact ⟨h1,by rw [← e]; exact g.key_mem (out_mem g hr).1⟩
  have hgs:=gone_sorted g.sorted c.who c.new
  have hcross:∀ x∈toldL (goneL c.who c.new s.regs) 1,∀ y∈toldL (othersL c.who (putOut s.regs (goneL c.who c.new s.regs))) 2,x.1≠y.1:=by
   intro x hx y hy exy
   obtain ⟨r,hr,e,ho⟩:=gone_in (toldL_mem hx).1
   obtain ⟨_,q,hq,e'⟩:=others_mem (toldL_mem hy).1
   obtain ⟨hq1,hq2⟩:=out_mem g hq
   have:=sorted_inj g.sorted hr hq1 (by rw [e,e']; exact exy)
   rw [this,hq2] at ho
   cases ho
  have hregs:r0.regs=putOut s.regs (goneL c.who c.new s.regs)∧(lt=toldL (goneL c.who c.new s.regs) 1∨lt=toldL (goneL c.who c.new s.regs) 1 ++ toldL (othersL c.who (putOut s.regs (goneL c.who c.new s.regs))) 2):=by
   rcases preempt_ok ha with ⟨-,rfl,rfl⟩ | ⟨-,-,rfl,rfl⟩
   ·refine ⟨rfl,?_⟩
    split
    ·exact .inr rfl
    ·exact .inl (List.append_nil _)
   ·exact ⟨rfl,.inl rfl⟩
  obtain ⟨hreg,hlt⟩:=hregs
  have hlost:∀ x∈s.regs,x.1≠c.who→¬ 0<keyOf r.regs x.1→(x.1,1)∈toldL (goneL c.who c.new s.regs) 1:=by
   intro x hx hw hk
   refine toldL_in ?_
   cases ho:outB c.who c.new x
   ·exfalso
    apply hk
    rw [e1,hreg,out_list g,keyOf_filter_keep]
    ·exact g.kpos (g.key_mem hx)
    ·intro y hy e
     rw [sorted_inj g.sorted hy hx e,ho]; rfl
   ·unfold goneL
    exact List.mem_map.2 ⟨x,List.mem_filter.2 ⟨hx,ho⟩,rfl⟩
  rcases hlt with rfl | rfl
  ·exact ⟨hgone,toldL_dist 1 hgs,fun x hx hw hk=>.inl (toldTo_mem (toldL_dist 1 hgs) (hlost x hx hw hk))⟩
  ·have hd:(toldL (goneL c.who c.new s.regs) 1 ++ toldL (othersL c.who (putOut s.regs (goneL c.who c.new s.regs))) 2).Pairwise (fun a b=>a.1≠b.1) :=
    List.pairwise_append.2 ⟨toldL_dist 1 hgs,toldL_dist 2 (others_sorted (out_good g c.who c.new).2),hcross⟩
   refine ⟨fun x hx=>?_,hd,fun x hx hw hk=>.inl (toldTo_mem hd (List.mem_append_left _ (hlost x hx hw hk)))⟩
   rcases List.mem_append.1 hx with h | h
   ·exact hgone x h
   ·exact hoth x h
end Go.Proofs.YtajegiifabfcjaaGreatDoor

namespace Go.Proofs.YtajegiifabfcjaaGreatDoor
open Go.RowKit Go.Sort
theorem stage_zero {b:Bool} {x m r:Int} (h:stage b x m r=0):0≤x∧x≤m∧(b=false→x=0)∧r=0:=by
 unfold stage at h
 split at h
 ·cases h
 ·rename_i h1
  split at h
  ·cases h
  ·refine ⟨by omega,by omega,fun e=>?_,h⟩
   by_cases hx:x=0
   ·exact hx
   ·exact absurd ⟨e,hx⟩ h1
theorem cmd_ok {c:Cmd} (h:cmdFault c=0):CmdOk c:=by
 unfold cmdFault at h
 split at h
 ·cases h
 ·rename_i h1
  split at h
  ·cases h
  ·rename_i h2
   obtain ⟨k1,k2,-,h⟩:=stage_zero h
   obtain ⟨n1,n2,-,h⟩:=stage_zero h
   obtain ⟨a1,a2,-,h⟩:=stage_zero h
   unfold cfP at h
   split at h
   ·cases h
   ·rename_i h3
    refine ⟨by omega,by omega,⟨k1,k2⟩,⟨n1,n2⟩,fun ho=>?_⟩
    cases hm:typeMay c.typ
    ·exact absurd (by simp [badParts,ho,hm]) h3
    ·rfl
end Go.Proofs.YtajegiifabfcjaaGreatDoor
