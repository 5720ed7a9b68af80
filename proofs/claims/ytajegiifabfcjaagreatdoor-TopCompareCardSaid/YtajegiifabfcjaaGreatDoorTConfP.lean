/-
  TopConflict, TopCompare: the plain laws.
-/
import Derived.Test.YtajegiifabfcjaaGreatDoorTTgDone
namespace Go.Proofs.YtajegiifabfcjaaGreatDoor
open Go.RowKit
section
variable {n:Nat} {S:Cel→Prop} {B:Int} {t:Tg}
theorem conflict_law (h:TI n S B t) {c:Cmd} (hf:cmdFault c=0) (ho:7≤c.op) {r:Tg × ByteArray × Int × Int} (hr:t.askN n c 6=r) :
  r.1.k=t.k∧r.1.fly.length≤40∧(pmay t.k.s c.who (decide (c.op≠7))=false→r.2.2.2=4∧r.2.2.1=0∧r.1.fly=t.fly)∧(pmay t.k.s c.who (decide (c.op≠7))=true→r.2.2.2≠4):=by
 obtain ⟨u,a,o,e⟩:=asked_six h hf ho
 rw [hr] at e
 subst e
 have hfl:=h.fl
 have hk:(t.deaf c.who).k=t.k:=rfl
 have hy:(t.deaf c.who).fly=t.fly:=rfl
 cases o with
 | no hp =>
  rw [hk] at hp
  exact ⟨rfl,hfl,fun _=>⟨rfl,rfl,rfl⟩,fun hq=>by rw [hp] at hq; cases hq⟩
 | busy hp =>
  rw [hk] at hp
  exact ⟨rfl,hfl,(fun hq=>by rw [hp] at hq; cases hq),fun _=>by show (7:Int)≠4; omega⟩
 | read hp =>
  rw [hk] at hp
  exact ⟨rfl,hfl,(fun hq=>by rw [hp] at hq; cases hq),fun _=>by show (0:Int)≠4; omega⟩
 | refused hp _ _ f hff =>
  rw [hk] at hp
  exact ⟨rfl,hfl,(fun hq=>by rw [hp] at hq; cases hq),fun _=>by show f≠4; rcases hff with ⟨-,rfl⟩ | ⟨-,-,rfl⟩ <;> omega⟩
 | full hp _ u hu =>
  rw [hk] at hp
  refine ⟨?_,?_,(fun hq=>by rw [hp] at hq; cases hq),fun _=>by show (6:Int)≠4; omega⟩
  ·rcases hu with ⟨-,rfl⟩ | ⟨-,rfl,-⟩ <;> rfl
  ·rcases hu with ⟨-,rfl⟩ | ⟨-,rfl,-⟩ <;> exact hfl
 | write hp _ u hu hl =>
  rw [hk] at hp
  rw [hy] at hl
  refine ⟨?_,?_,(fun hq=>by rw [hp] at hq; cases hq),fun _=>by show (0:Int)≠4; omega⟩
  ·rcases hu with ⟨-,rfl⟩ | ⟨-,rfl,-⟩ <;> rfl
  ·show ((t.deaf c.who).fly ++ _).length≤40
   rw [hy,List.length_append]
   simpa using hl
theorem compare_law (h:TI n S B t) {c:Cmd} (hf:cmdFault c=0) (ho:c.op=9) {r:Tg × ByteArray × Int × Int} (hr:t.askN n c 6=r) :
  r.1.k=t.k∧r.1.g.ok∧r.1.fly.length≤40∧(r.2.2.2≠0→r.2.2.1=0∧r.1.fly.length=t.fly.length∧(r.2.2.2≠9∨(r.1.most=true∧(r.1.newest c.at'.toNat).d≠c.want))) ∧
   (r.2.2.2=0→0<r.2.2.1∧r.1.most=true∧(r.1.newest c.at'.toNat).d=c.want∧r.1.fly.length=t.fly.length+3):=by
 obtain ⟨u,a,o,e⟩:=asked_six h hf (by omega)
 rw [hr] at e
 subst e
 have hfl:=h.fl
 have hat:=(fault_zero hf).2.1 (by omega)
 have h':=h.deaf c.who
 have hk8:c.at'.toNat<8:=by omega
 have nr:2≤((t.deaf c.who).g.mem (t.deaf c.who).k.ep).length→({ t.deaf c.who with g:=(t.deaf c.who).g.read (t.deaf c.who).k.ep c.at'.toNat }:Tg).newest c.at'.toNat=bestL c.at'.toNat ((t.deaf c.who).g.frm (t.deaf c.who).k.ep):=fun hm=>newest_read h' hk8 hm
 have mr:2≤((t.deaf c.who).g.mem (t.deaf c.who).k.ep).length→({ t.deaf c.who with g:=(t.deaf c.who).g.read (t.deaf c.who).k.ep c.at'.toNat }:Tg).most=true:=fun hm=>by
  unfold Tg.most
  dsimp only
  rw [mem_read h']
  exact decide_eq_true hm
 have ok:=h'.qi.ok
 cases o with
 | no=>exact ⟨rfl,ok,hfl,fun _=>⟨rfl,rfl,.inl (by show (4:Int)≠9; omega)⟩,fun he=>by cases he⟩
 | busy=>exact ⟨rfl,ok,hfl,fun _=>⟨rfl,rfl,.inl (by show (7:Int)≠9; omega)⟩,fun he=>by cases he⟩
 | read _ _ h7=>omega
 | refused _ hm _ f hff =>
  refine ⟨rfl,Gp.read_ok ok _ _,hfl,fun _=>⟨rfl,rfl,?_⟩,fun he=>?_⟩
  ·rcases hff with ⟨-,rfl⟩ | ⟨-,hd,rfl⟩
   ·exact .inl (by show (7:Int)≠9; omega)
   ·exact .inr ⟨mr hm,by rw [nr hm]; exact hd⟩
  ·exfalso
   have he':f=0:=he
   rcases hff with ⟨-,rfl⟩ | ⟨-,-,rfl⟩ <;> omega
 | full _ _ u hu =>
  refine ⟨?_,?_,?_,fun _=>⟨rfl,?_,.inl (by show (6:Int)≠9; omega)⟩,fun he=>by cases he⟩
  ·rcases hu with ⟨-,rfl⟩ | ⟨-,rfl,-⟩ <;> rfl
  ·rcases hu with ⟨-,rfl⟩ | ⟨-,rfl,-⟩
   ·exact ok
   ·exact Gp.read_ok ok _ _
  ·rcases hu with ⟨-,rfl⟩ | ⟨-,rfl,-⟩ <;> exact hfl
  ·rcases hu with ⟨-,rfl⟩ | ⟨-,rfl,-⟩ <;> rfl
 | write _ hm u hu hl =>
  rcases hu with ⟨h8,-⟩ | ⟨-,rfl,-,hd⟩
  ·omega
  have ht0:=h.t0
  refine ⟨rfl,Gp.read_ok ok _ _,?_,fun he=>absurd rfl he,fun _=>⟨?_,mr hm,(congrArg Cel.d (nr hm)).trans hd,?_⟩⟩
  ·show ((t.deaf c.who).fly ++ _).length≤40
   rw [List.length_append]
   simpa using hl
  ·show 0<t.tag+1
   omega
  ·show ((t.deaf c.who).fly ++ _).length=t.fly.length+3
   rw [List.length_append]
   rfl
end
end Go.Proofs.YtajegiifabfcjaaGreatDoor
