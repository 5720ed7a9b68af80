/-
  TopHeard, the plain law: who is put out finds it in their box.
-/
import Derived.Test.YtajegiifabfcjaaGreatDoorTTgLaw2
import Derived.Test.YtajegiifabfcjaaGreatDoorQ33
namespace Go.Proofs.YtajegiifabfcjaaGreatDoor
open Go.RowKit
theorem Bl.get_other (b:Bl) {who other:Int} (l:List Int) (h:other≠who) (hw:1≤who∧who≤4) (ho:1≤other∧other≤4):(b.set who l).get other=b.get other:=by
 rw [Bl.get_set b who other l hw ho,if_neg h]
theorem adds_none {who:Int} (hw:1≤who∧who≤4):∀ (lt:List (Int × Int)) (b:Bl),(∀ x∈lt,x.1≠who∧1≤x.1∧x.1≤4)→(b.adds lt).get who=b.get who
 | [],_,_=>rfl
 | x :: lt,b,h=>by
  have hx:=h x (by simp)
  have ih:=adds_none hw lt (b.add x) (fun y hy=>h y (by simp [hy]))
  show ((b.add x).adds lt).get who=b.get who
  rw [ih]
  exact Bl.get_other b _ (fun e=>hx.1 e.symm) hx.2 hw
theorem adds_one {who v:Int} (hw:1≤who∧who≤4):∀ (lt:List (Int × Int)) (b:Bl),lt.Pairwise (fun a b=>a.1≠b.1)→(∀ x∈lt,1≤x.1∧x.1≤4)→(who,v)∈lt→b.get who=[]→(b.adds lt).get who=[v]
 | [],_,_,_,h,_=>by cases h
 | x :: lt,b,hp,hl,hm,hb=>by
  have hp':=List.pairwise_cons.1 hp
  show ((b.add x).adds lt).get who=[v]
  rcases List.mem_cons.1 hm with e | e
  ·subst e
   rw [adds_none hw lt _ (fun y hy=>⟨fun e=>hp'.1 y hy e.symm,hl y (by simp [hy])⟩)]
   show (b.set who (addL (b.get who) v)).get who=[v]
   rw [Bl.get_set_self,hb]
   rfl
  ·refine adds_one hw lt (b.add x) hp'.2 (fun y hy=>hl y (by simp [hy])) e ?_
   have hne:who≠x.1:=fun q=>hp'.1 _ e q.symm
   show (b.set x.1 _).get who=[]
   rw [Bl.get_other b _ hne (hl x (by simp)) hw,hb]
section
variable {n:Nat} {S:Cel→Prop} {B:Int} {t:Tg}
theorem emptied (h:TI n S B t) {c:Cmd} (hf:cmdFault c=0) (ho:7≤c.op):(t.askN n c 6).1.b.get c.who=[]∧(t.askN n c 6).1.k=t.k:=by
 obtain ⟨u,a,o,e⟩:=asked_six h hf ho
 rw [e]
 have hd:(t.deaf c.who).b.get c.who=[]:=deaf_get t c.who
 have hb:u.b=(t.deaf c.who).b:=by
  cases o with
  | no=>rfl
  | busy=>rfl
  | read=>rfl
  | refused=>rfl
  | full _ _ u hu=>rcases hu with ⟨-,rfl⟩ | ⟨-,rfl,-⟩ <;> rfl
  | write _ _ u hu=>rcases hu with ⟨-,rfl⟩ | ⟨-,rfl,-⟩ <;> rfl
 exact ⟨by show u.b.get c.who=[]; rw [hb]; exact hd,o.same_k⟩
theorem heard_law (h:TI n S B t) (hB:B+2<1000000000000000) {c:Cmd} (hf:cmdFault c=0) (ho:c.op=5∨c.op=6) {who:Int} (hw:1≤who∧who≤4) (hne:who≠c.who) (hb:t.b.get who=[]) {r:Tg × ByteArray × Int × Int} (hr:t.askN n c 6=r) (he:r.2.2.2=0)
  (hk:keyOf t.k.s.regs who≠0) (hg:¬ 0<keyOf r.1.k.s.regs who):∃ v,r.1.b.get who=[v]∧(v=1∨v=3):=by
 obtain ⟨u,f,o,e⟩:=ordered_six h hB hf (by omega)
 rw [hr] at e
 subst e
 dsimp only at he hg ⊢
 obtain ⟨hc,-⟩:=fault_zero hf
 have hkk:(t.deaf c.who).k=t.k:=rfl
 have hb':(t.deaf c.who).b.get who=[]:=by
  show (t.b.set c.who []).get who=[]
  rw [Bl.get_other _ _ hne hc.who hw,hb]
 have key:∀ s',s'=(pdo t.k.s c).1→(pdo t.k.s c).2.2=0→¬ 0<keyOf s'.regs who→∃ v,((t.deaf c.who).b.adds (pdo t.k.s c).2.1).get who=[v]∧(v=1∨v=3):=by
  rintro s' rfl h0 hg
  have tf:=do_told h.good (r:=(pdo t.k.s c).1) (lt:=(pdo t.k.s c).2.1) (by rw [← h0]) hc.op.1
  obtain ⟨q,hq,hq1,-⟩:=keyOf_mem who t.k.s.regs hk
  have hl:=tf.lost q hq (by rw [hq1]; exact hne) (by rw [hq1]; exact hg)
  rw [hq1] at hl
  have hm:∃ v,(who,v)∈(pdo t.k.s c).2.1:=by
   by_cases hx:∃ x∈(pdo t.k.s c).2.1,x.1=who
   ·obtain ⟨x,hx,e⟩:=hx
    exact ⟨x.2,by rw [← e]; exact hx⟩
   ·exfalso
    have:toldTo (pdo t.k.s c).2.1 who=0:=told_none who _ 0 (fun x hx' e=>hx ⟨x,hx',e⟩)
    omega
  obtain ⟨v,hv⟩:=hm
  have hv2:=toldTo_mem tf.dist hv
  exact ⟨v,adds_one hw _ _ tf.dist (told_who h.good hc) hv hb',by rw [← hv2]; exact hl⟩
 cases o with
 | bad hf' _=>exact absurd he hf'
 | less d l h0 hm hd hf'=>exact key _ rfl h0 hg
 | busy f' hf'=>exfalso; rcases hf' with rfl | rfl <;> cases he
 | more d l h0 hd hf'=>exact key _ rfl h0 hg
end
end Go.Proofs.YtajegiifabfcjaaGreatDoor
