/-
  TopSync, the plain law.
-/
import Derived.Test.YtajegiifabfcjaaGreatDoorQ19
namespace Go.Proofs.YtajegiifabfcjaaGreatDoor
open Go.RowKit
section
variable {n:Nat} {S:Cel→Prop} {B:Int} {t:Tg}
theorem sync_lawP (h:TI n S B t) {i:Nat} (hi:i<3) :
  ((t.sync i).2≠0→(t.sync i).2=7∧(t.sync i).1=t) ∧
  ((t.sync i).2=0→flG t.g i≠t.k.ep∧(t.sync i).1={ t with g:=t.g.sync t.k.ep i }∧flG (t.g.sync t.k.ep i) i=t.k.ep∧(∀ k,k<8→valG (t.g.sync t.k.ep i) k i=bestL k (t.g.frm t.k.ep))∧(t.g.sync t.k.ep i).u=t.g.u∧∀ j,j≠i→(t.g.sync t.k.ep i).r.getD j Rp.zero=t.g.r.getD j Rp.zero):=by
 have hni:¬ ((i:Int)<0∨3≤(i:Int)):=by omega
 unfold Tg.sync
 rw [if_neg hni,Int.toNat_natCast]
 by_cases hs:t.g.syncs t.k.ep i=true
 ·rw [if_pos hs]
  refine ⟨fun he=>absurd rfl he,fun _=>⟨by have:=(syncs_mem hs).2.2; omega,rfl,?_,fun k hk=>?_,?_,fun j hj=>?_⟩⟩
  ·rw [flG_sync h.qi.ok _ hi,if_pos ⟨hs,rfl⟩]
  ·rw [valG_sync h.qi.ok _ hi hk,if_pos ⟨hs,rfl⟩]
  ·unfold Gp.sync; rw [if_pos hs]; rfl
  ·unfold Gp.sync
   rw [if_pos hs,getR_setR (by rw [h.qi.ok.r3]; exact hi),if_neg hj]
 ·rw [if_neg hs]
  exact ⟨fun _=>⟨rfl,rfl⟩,fun he=>by cases he⟩
end
end Go.Proofs.YtajegiifabfcjaaGreatDoor
