/-
  TopRise, the plain law: what was read is what most have, and no older.
-/
import Derived.Test.YtajegiifabfcjaaGreatDoorQ19
namespace Go.Proofs.YtajegiifabfcjaaGreatDoor
open Go.RowKit
section
variable {n:Nat} {S:Cel→Prop} {B:Int} {t:Tg}
theorem rise_read (h:TI n S B t) {k:Nat} (hk:k<8) {was:Cel} (h2:Two was k t.g) {c:Cmd} (hf:cmdFault c=0) (ho:c.op=7) (hat:c.at'=(k:Int)) {r:Tg × ByteArray × Int × Int} (hr:t.askN n c 6=r) (he:r.2.2.2=0) :
  TI n S B r.1∧r.1.most=true∧newerB was (r.1.newest k)=false∧r.2.1=(r.1.newest k).d∧Two (r.1.newest k) k r.1.g:=by
 obtain ⟨u,a,o,e⟩:=asked_six h hf (by omega)
 rw [hr] at e
 subst e
 dsimp only at he ⊢
 have h':=h.deaf c.who
 have hg:(t.deaf c.who).g=t.g:=rfl
 have hep:(t.deaf c.who).k=t.k:=rfl
 cases o with
 | no=>cases he
 | busy=>cases he
 | read hp hm =>
  have hkk:c.at'.toNat=k:=by omega
  rw [hkk]
  have hn:=newest_read h' hk hm
  rw [hn]
  refine ⟨h'.setG (h'.qi.read _) (h'.al.read h'.fa.z _ _),?_,?_,rfl,?_⟩
  ·unfold Tg.most
   dsimp only
   rw [mem_read h']
   exact decide_eq_true hm
  ·exact (h2.best h.fa h.al hm).not_newer
  ·obtain ⟨i,j,hij,hj,hi1,hj1⟩:=mem_two' hm
   refine ⟨i,j,hij,hj,?_,?_⟩
   ·show leC _ (valG ((t.deaf c.who).g.read _ _) k i)
    rw [valG_read h'.qi.ok hk hm (by omega),if_pos hi1]
    exact leC.refl _
   ·show leC _ (valG ((t.deaf c.who).g.read _ _) k j)
    rw [valG_read h'.qi.ok hk hm hj,if_pos hj1]
    exact leC.refl _
 | refused _ _ h9=>omega
 | full _ _ u hu=>rcases hu with ⟨e,-⟩ | ⟨e,-⟩ <;> omega
 | write _ _ u hu=>rcases hu with ⟨e,-⟩ | ⟨e,-⟩ <;> omega
theorem read_ti (h:TI n S B t) {c:Cmd} (hf:cmdFault c=0) (ho:c.op=7):TI n S B (t.askN n c 6).1:=by
 obtain ⟨u,a,o,e⟩:=asked_six h hf (by omega)
 rw [e]
 have h':=h.deaf c.who
 cases o with
 | no=>exact h'
 | busy=>exact h'
 | read hp hm=>exact h'.setG (h'.qi.read _) (h'.al.read h'.fa.z _ _)
 | refused _ _ h9=>omega
 | full _ _ u hu=>rcases hu with ⟨e,-⟩ | ⟨e,-⟩ <;> omega
 | write _ _ u hu=>rcases hu with ⟨e,-⟩ | ⟨e,-⟩ <;> omega
theorem read_two (h:TI n S B t) {k:Nat} (hk:k<8) {was:Cel} (h2:Two was k t.g) {c:Cmd} (hf:cmdFault c=0) (ho:7≤c.op):Two was k (t.askN n c 6).1.g:=by
 obtain ⟨u,a,o,e⟩:=asked_six h hf ho
 rw [e]
 exact o.move.two (h.deaf _) hk h2
end
end Go.Proofs.YtajegiifabfcjaaGreatDoor
