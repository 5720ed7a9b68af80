/-
  Targets: what was done is read. Plain laws.
-/
import Derived.Test.YtajegiifabfcjaaGreatDoorQ19
namespace Go.Proofs.YtajegiifabfcjaaGreatDoor
open Go.RowKit
section
variable {n:Nat} {S:Cel→Prop} {B:Int} {t:Tg}
structure UB (k:Nat) (c:Cel) (t:Tg):Prop where
 z:leC Cel.zero c
 val:∀ i,i<3→leC (valG t.g k i) c
 fly:∀ m∈t.fly,m.at'=(k:Int)→leC m.c c
theorem UB.best {k:Nat} {c:Cel} (h:UB k c t) (ep:Int):leC (bestL k (t.g.frm ep)) c:=by
 rcases bestF_mem k (t.g.frm ep) with e | ⟨r,hr,e⟩
 ·rw [e]; exact h.z
 ·obtain ⟨i,hi,-,rfl⟩:=frm_mem hr
  rw [e]; exact h.val i hi
theorem UB.move (h:TI n S B t) {k:Nat} (hk:k<8) {c:Cel} (u:UB k c t) {g:Gp} (m:GMove t g):∀ i,i<3→leC (valG g k i) c:=by
 intro i hi
 cases m with
 | same=>exact u.val i hi
 | up=>exact u.val i hi
 | fence ep=>rw [valG_fence h.qi.ok]; exact u.val i hi
 | read k' =>
  by_cases hm:2≤(t.g.mem t.k.ep).length
  ·by_cases hkk:k=k'
   ·subst hkk
    rw [valG_read h.qi.ok hk hm hi]
    split
    ·exact u.best _
    ·exact u.val i hi
   ·rw [valG_read_other h.qi.ok _ hkk]; exact u.val i hi
  ·rw [show t.g.read t.k.ep k'=t.g from if_neg hm]; exact u.val i hi
 | sync j hj =>
  rw [valG_sync h.qi.ok _ hj hk]
  split
  ·exact u.best _
  ·exact u.val i hi
 | deliver m hm =>
  have:=h.msg m hm
  rw [valG_deliver_any h.qi.ok (by omega) (by omega)]
  split
  ·rename_i hc
   exact u.fly m hm (by omega)
  ·exact u.val i hi
def Flies (k:Nat) (t u:Tg):Prop:=∀ m∈u.fly,m∈t.fly∨(m.at'≠(k:Int)∧t.tag<m.tag)
theorem Asked.flies {k:Nat} {c:Cmd} {u:Tg} {a:Ans} (h:Asked t c u a) (hs:¬ (8≤c.op∧c.at'=(k:Int))):Flies k t u∧t.tag≤u.tag∧u.k=t.k∧u.done=t.done∧∀ w∈u.wait,w∈t.wait∨(t.tag<w.tag∧w.hv=[]):=by
 have id:∀ {g:Gp},Flies k t { t with g:=g }∧t.tag≤t.tag∧t.k=t.k∧t.done=t.done∧∀ w∈t.wait,w∈t.wait∨(t.tag<w.tag∧w.hv=[]):=fun {g}=>⟨fun m hm=>.inl hm,Int.le_refl _,rfl,rfl,fun w hw=>.inl hw⟩
 cases h with
 | no=>exact id (g:=t.g)
 | busy=>exact id (g:=t.g)
 | read=>exact id
 | refused=>exact id
 | full h hm u hu =>
  rcases hu with ⟨-,hu⟩ | ⟨-,hu,-⟩
  ·rw [hu]; exact id (g:=t.g)
  ·rw [hu]; exact id
 | write h hm u hu =>
  have e:u.k=t.k∧u.done=t.done∧8≤c.op:=by
   rcases hu with ⟨h1,rfl⟩ | ⟨h1,rfl,-⟩
   ·exact ⟨rfl,rfl,by omega⟩
   ·exact ⟨rfl,rfl,by omega⟩
  refine ⟨fun m hm=>?_,by show t.tag≤t.tag+1; omega,e.1,e.2.1,fun w hw=>?_⟩
  ·rcases List.mem_append.1 hm with q | q
   ·exact .inl q
   ·right
    simp only [List.mem_cons,List.mem_nil_iff,or_false] at q
    have hat:c.at'≠(k:Int):=fun q=>hs ⟨e.2.2,q⟩
    rcases q with rfl | rfl | rfl <;> exact ⟨hat,by show t.tag<t.tag+1; omega⟩
  ·rcases List.mem_append.1 hw with q | q
   ·exact .inl q
   ·right
    simp only [List.mem_singleton] at q
    subst q
    exact ⟨by show t.tag<t.tag+1; omega,rfl⟩
theorem fly_sub {k:Nat} {u:Tg} (h:u.fly=t.fly):Flies k t u:=fun _ hm=>.inl (h▸hm)
theorem deliver_fly (t:Tg) (i:Int) (b:Bool):∀ m∈(t.deliver i b).1.fly,m∈t.fly:=by
 unfold Tg.deliver
 split
 ·exact fun m hm=>hm
 have e:∀ m∈(if b then t.fly else t.fly.eraseIdx i.toNat),m∈t.fly:=by
  intro m hm
  cases b
  ·exact List.mem_of_mem_eraseIdx hm
  ·exact hm
 dsimp only
 split
 ·rw [(came_same _ _).2.2.2.2.2]; exact e
 ·exact e
structure DPre (k:Nat) (c:Cel) (tag:Int) (t:Tg):Prop where
 ub:UB k c t
 le:tag≤t.tag
 fly:∀ m∈t.fly,m.tag=tag→m.c=c∧m.at'=(k:Int)
 ep:∀ w∈t.wait,w.tag=tag→c.e=t.k.ep
 hv:∀ w∈t.wait,w.tag=tag→∀ x∈w.hv,∃ i:Nat,x=i∧i<3∧valG t.g k i=c∧flG t.g i=t.k.ep
 nd:tag ∉ t.done
structure DPost (k:Nat) (c:Cel) (t:Tg):Prop where
 ub:UB k c t
 two:Two c k t.g
theorem DPost.step (h:TI n S B t) {k:Nat} (hk:k<8) {c:Cel} (d:DPost k c t) {u:Tg} (m:GMove t u.g) (f:∀ m∈u.fly,m∈t.fly∨m.at'≠(k:Int)):DPost k c u :=
 ⟨⟨d.ub.z,d.ub.move h hk m,fun x hx hat=>by
  rcases f x hx with e | e
  ·exact d.ub.fly x e hat
  ·exact absurd hat e⟩,m.two h hk d.two⟩
def Elsewhere (k:Nat) (c:Cmd):Prop:=¬ (8≤c.op∧c.at'=(k:Int))
theorem pre_keep (h:TI n S B t) {k:Nat} (hk:k<8) {c:Cel} {tag:Int} (d:DPre k c tag t) {u:Tg} (m:GMove t u.g) (f:Flies k t u) (ht:t.tag≤u.tag) (hd:u.done=t.done)
  (hw:∀ w∈u.wait,w.tag=tag→w∈t.wait∧u.k.ep=t.k.ep)
  (hv:∀ i,i<3→valG t.g k i=c→flG t.g i=t.k.ep→u.k.ep=t.k.ep→valG u.g k i=c∧flG u.g i=t.k.ep):DPre k c tag u:=by
 refine ⟨⟨d.ub.z,d.ub.move h hk m,fun x hx hat=>?_⟩,by have:=d.le; omega,fun x hx hxt=>?_,fun w hx hxt=>?_,fun w hx hxt x hxv=>?_,by rw [hd]; exact d.nd⟩
 ·rcases f x hx with e | e
  ·exact d.ub.fly x e hat
  ·exact absurd hat e.1
 ·rcases f x hx with e | e
  ·exact d.fly x e hxt
  ·have:=d.le; omega
 ·obtain ⟨a,b⟩:=hw w hx hxt
  rw [b]; exact d.ep w a hxt
 ·obtain ⟨a,b⟩:=hw w hx hxt
  obtain ⟨i,e1,e2,e3,e4⟩:=d.hv w a hxt x hxv
  obtain ⟨q1,q2⟩:=hv i e2 e3 e4 b
  exact ⟨i,e1,e2,q1,by rw [q2,b]⟩
end
end Go.Proofs.YtajegiifabfcjaaGreatDoor
