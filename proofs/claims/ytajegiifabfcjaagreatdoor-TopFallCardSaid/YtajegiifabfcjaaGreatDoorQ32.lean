/-
  Of what waits, in memory: for Deliver.
-/
import Derived.Test.YtajegiifabfcjaaGreatDoorQ31
import Derived.Maps.OwnOps
namespace Go.Proofs.YtajegiifabfcjaaGreatDoor
open Go.RowKit Go.Sort
theorem step_del {P:Program} {ops:Array Oper} {o:Oper} {a:Act} {w:World} {K:Act→World→Prop} {Q:Exit→Act→World→Prop} {E:Prop} (hgd:o.guard=none) (s x:Operand) (t kt:TypeId) (ho:o.op=.call { callee:=.builtin .delete,args:=#[s,x],argTypes:=#[t,kt] }) (w':World)
  (hrun:(Builtin.delete_ #[t,kt] o.type #[a.eval s,a.eval x]).run P w=.ok (.tuple #[]) w') (hK:K (a.put o.dst (.tuple #[])) w') :
  if Region.wanted o (yielded ops a.tmps)=true then Oper.wp P o a w K Q else E:=by
 have hw:Region.wanted o (yielded ops a.tmps)=true:=by simp [Region.wanted,hgd]
 rw [if_pos hw]
 unfold Oper.wp execOp
 simp only [ho,resolve,invoke,builtin,Sem.run_bind,Sem.run_pure,Result.andThen_ok,List.map_toArray,List.map_cons,List.map_nil,hrun]
 exact hK
theorem wpList_upd {P:Program} (w:World) {ops:Array Oper} {l:List Oper} {o:Oper} {a:Act} {Q:Exit→Act→World→Prop} (hgd:o.guard=none) (t:TypeId) (m k x:Operand) (hop:o.op=.mapUpdate t m k x) (w':World)
  (hrun:(Instr.mapUpdate t (a.eval m) (a.eval k) (a.eval x)).run P w=.ok () w') (h:wpList P ops Q l (a.put o.dst undef) w'):wpList P ops Q (o :: l) a w :=
 wpList_plain hgd fun K hK=>by
  have e:(execOp a.eval o).run P w=.ok .skip w':=by simp [execOp,hop,hrun,Result.andThen]
  unfold Oper.wp
  rw [e]
  exact hK _ _ h
theorem run_len_int {P:Program} {w:World} {T kt et:TypeId} (hT:P.underlying T=some (.map kt et)) {b:Nat} {l:List (Int × Value)} (h:IMap w b l):∀ ty,(Builtin.len_ #[T] ty #[.map (some b)]).run P w=.ok (.int .i64 (l.length:Int)) w:=fun ty=>by
 obtain ⟨es,cl,hb,he⟩:=h
 have hz:es.size=l.length:=by
  have:=congrArg List.length he
  simpa using this
 simp [Builtin.len_,run_underlying hT,MapKept.run_getObj_map hb,hz]
 rfl
theorem cells3 {W:World} {b:Nat} {v0 v1 v2:Value} {T:TypeId} (h:W.heap[b]?=some (.cells #[v0,v1,v2] T (0,0))) :
  (W.cell? ⟨b,0,none⟩=some v0∧W.cell? ⟨b,1,none⟩=some v1∧W.cell? ⟨b,2,none⟩=some v2)∧(W.frozen? ⟨b,0,none⟩=false∧W.frozen? ⟨b,1,none⟩=false∧W.frozen? ⟨b,2,none⟩=false):=by
 simp [World.cell?,World.frozen?,h]
def three (w:World) (T:Nat) (v0 v1 v2:Value):World:=((w.setCell ⟨T,0,none⟩ v0).setCell ⟨T,1,none⟩ v1).setCell ⟨T,2,none⟩ v2
theorem three_at {wx:World} {T:Nat} {x0 x1 x2:Value} {Ty:TypeId} (h:wx.heap[T]?=some (.cells #[x0,x1,x2] Ty (0,0))) (v0 v1 v2:Value):(three wx T v0 v1 v2).heap[T]?=some (.cells #[v0,v1,v2] Ty (0,0)) :=
 one_setCell (one_setCell (one_setCell h v0) v1) v2
theorem three_below {B:Nat} {a wx:World} (h:Below B a wx) {T:Nat} (hT:B≤T) (v0 v1 v2:Value):Below B a (three wx T v0 v1 v2) :=
 ((h.setCell (p:=⟨T,0,none⟩) hT v0).setCell (p:=⟨T,1,none⟩) hT v1).setCell (p:=⟨T,2,none⟩) hT v2
def tagAt (k:Int):List Wt→Option Nat
 | []=>none
 | x :: l=>if x.tag=k then some 0 else (tagAt k l).map (·+1)
theorem tagAt_spec (k:Int):∀ (l:List Wt) (j:Nat),tagAt k l=some j→∃ h:j<l.length,l[j].tag=k∧l.find? (fun w=>decide (w.tag=k))=some l[j]
 | [],_,h=>by cases h
 | x :: l,j,h=>by
  unfold tagAt at h
  by_cases hx:x.tag=k
  ·rw [if_pos hx] at h
   cases h
   exact ⟨by simp,hx,by simp [hx]⟩
  ·rw [if_neg hx] at h
   cases hq:tagAt k l with
   | none=>rw [hq] at h; cases h
   | some q =>
    rw [hq] at h
    obtain rfl:q+1=j:=by simpa using h
    obtain ⟨h1,h2,h3⟩:=tagAt_spec k l q hq
    exact ⟨by simpa using h1,by simpa using h2,by simp [hx,h3]⟩
theorem tagAt_none (k:Int):∀ (l:List Wt),tagAt k l=none→l.find? (fun w=>decide (w.tag=k))=none
 | [],_=>rfl
 | x :: l,h=>by
  unfold tagAt at h
  by_cases hx:x.tag=k
  ·rw [if_pos hx] at h; cases h
  ·rw [if_neg hx] at h
   have hq:tagAt k l=none:=by simpa using h
   simp [hx,tagAt_none k l hq]
theorem findI_wait (k:Int):∀ (l:List Wt) (hm:List Nat) (i:Nat),l.length=hm.length→findI k (waitL l hm) i=match tagAt k l with | none=>none | some j=>(l[j]?).bind fun x=>(hm[j]?).map fun b=>(i+j,.agg #[.int .i64 x.who,.int .i64 x.num,.map (some b)])
 | [],[],_,_=>rfl
 | [],_ :: _,_,h=>by simp at h
 | _ :: _,[],_,h=>by simp at h
 | x :: l,b :: hm,i,h=>by
  unfold waitL findI tagAt
  by_cases hx:x.tag=k
  ·rw [if_pos hx,if_pos hx]; simp
  ·rw [if_neg hx,if_neg hx,findI_wait k l hm (i+1) (by simpa using h)]
   cases hq:tagAt k l with
   | none=>rfl
   | some q=>simp only [Option.map_some,List.getElem?_cons_succ]; rw [show i+1+q=i+(q+1) by omega]
theorem waitL_set:∀ (l:List Wt) (hm:List Nat) (j:Nat) (y:Wt) (h:j<l.length),y.tag=l[j].tag→y.who=l[j].who→y.num=l[j].num→waitL (l.set j y) hm=waitL l hm
 | [],_,_,_,h,_,_,_=>by simp at h
 | _ :: _,[],j,_,_,_,_,_=>by cases j <;> simp [waitL]
 | x :: l,b :: hm,0,y,_,e1,e2,e3=>by simp at e1 e2 e3; simp [waitL,e1,e2,e3]
 | x :: l,b :: hm,j+1,y,h,e1,e2,e3=>by
  simp only [List.set_cons_succ,waitL]
  rw [waitL_set l hm j y (by simpa using h) (by simpa using e1) (by simpa using e2) (by simpa using e3)]
theorem waitL_erase:∀ (l:List Wt) (hm:List Nat) (j:Nat),l.length=hm.length→waitL (l.eraseIdx j) (hm.eraseIdx j)=(waitL l hm).eraseIdx j
 | [],[],_,_=>by simp [waitL]
 | [],_ :: _,_,h=>by simp at h
 | _ :: _,[],_,h=>by simp at h
 | _ :: _,_ :: _,0,_=>by simp [waitL]
 | x :: l,b :: hm,j+1,h=>by
  simp only [List.eraseIdx_cons_succ,waitL]
  rw [waitL_erase l hm j (by simpa using h)]
theorem filter_all {k:Int}:∀ {l:List Wt},(∀ x∈l,x.tag≠k)→l.filter (fun w=>decide (w.tag≠k))=l
 | [],_=>rfl
 | x :: l,h=>by
  rw [List.filter_cons_of_pos (by simpa using h x (by simp)),filter_all (fun y hy=>h y (by simp [hy]))]
theorem wait_gone {k:Int}:∀ (l:List Wt) (j:Nat) (h:j<l.length),l[j].tag=k→l.Pairwise (fun a b=>a.tag<b.tag)→l.filter (fun w=>decide (w.tag≠k))=l.eraseIdx j
 | [],_,h,_,_=>by simp at h
 | x :: l,0,_,e,hp=>by
  have e':x.tag=k:=e
  rw [List.filter_cons_of_neg (by simp [e'])]
  rw [List.eraseIdx_cons_zero]
  exact filter_all (fun y hy=>by have:=(List.pairwise_cons.1 hp).1 y hy; omega)
 | x :: l,j+1,h,e,hp=>by
  have hl:j<l.length:=by simpa using h
  have e':l[j].tag=k:=by simpa using e
  have:=(List.pairwise_cons.1 hp).1 l[j] (List.getElem_mem hl)
  rw [List.filter_cons_of_pos (by simp; omega),wait_gone l j hl e' (List.pairwise_cons.1 hp).2,List.eraseIdx_cons_succ]
theorem map_all {k:Int} {f:Wt→Wt}:∀ {l:List Wt},(∀ x∈l,x.tag≠k)→l.map (fun w=>if w.tag=k then f w else w)=l
 | [],_=>rfl
 | x :: l,h=>by
  rw [List.map_cons,if_neg (h x (by simp)),map_all (fun y hy=>h y (by simp [hy]))]
theorem wait_put {k:Int} {f:Wt→Wt}:∀ (l:List Wt) (j:Nat) (h:j<l.length),l[j].tag=k→l.Pairwise (fun a b=>a.tag<b.tag)→l.map (fun w=>if w.tag=k then f w else w)=l.set j (f l[j])
 | [],_,h,_,_=>by simp at h
 | x :: l,0,_,e,hp=>by
  have e':x.tag=k:=e
  rw [List.map_cons,if_pos e',map_all (fun y hy=>by have:=(List.pairwise_cons.1 hp).1 y hy; omega)]
  rfl
 | x :: l,j+1,h,e,hp=>by
  have hl:j<l.length:=by simpa using h
  have e':l[j].tag=k:=by simpa using e
  have:=(List.pairwise_cons.1 hp).1 l[j] (List.getElem_mem hl)
  rw [List.map_cons,if_neg (by omega),wait_put l j hl e' (List.pairwise_cons.1 hp).2]
  rfl
theorem put_bool (l:List Int) (k:Int):putI (boolL l) k (.bool true)=boolL (if k∈l then l else l ++ [k]):=by
 have key:∀ (l:List Int) (i:Nat),(k ∉ l→findI k (boolL l) i=none)∧(k∈l→∃ j v,findI k (boolL l) i=some (i+j,v)∧(boolL l)[j]?=some (k,.bool true)):=by
  intro l
  induction l with
  | nil=>intro i; exact ⟨fun _=>rfl,fun h=>by cases h⟩
  | cons x l ih =>
   intro i
   obtain ⟨h1,h2⟩:=ih (i+1)
   unfold boolL at h1 h2 ⊢
   rw [List.map_cons]
   unfold findI
   by_cases hx:x=k
   ·refine ⟨fun h=>absurd (by simp [hx]) h,fun _=>⟨0,.bool true,by rw [if_pos hx]; rfl,by simp [hx]⟩⟩
   ·refine ⟨fun h=>by rw [if_neg hx]; exact h1 (fun q=>h (by simp [q])),fun h=>?_⟩
    obtain ⟨j,v,e1,e2⟩:=h2 (by simpa [Ne.symm hx] using h)
    exact ⟨j+1,v,by rw [if_neg hx,e1]; congr 2; omega,by simpa using e2⟩
 obtain ⟨h1,h2⟩:=key l 0
 unfold putI
 by_cases hk:k∈l
 ·rw [if_pos hk]
  obtain ⟨j,v,e1,e2⟩:=h2 hk
  rw [e1]
  simp only [Nat.zero_add]
  obtain ⟨hj,e3⟩:=List.getElem?_eq_some_iff.1 e2
  rw [← e3]
  exact List.set_getElem_self hj
 ·rw [if_neg hk,h1 hk]
  simp [boolL]
theorem del_wait {k:Int} {l:List Wt} {hm:List Nat} (hl:l.length=hm.length) {j:Nat} (h:tagAt k l=some j):delI (waitL l hm) k=waitL (l.eraseIdx j) (hm.eraseIdx j):=by
 obtain ⟨h1,h2,-⟩:=tagAt_spec k l j h
 unfold delI
 rw [findI_wait k l hm 0 hl,h]
 simp only [List.getElem?_eq_getElem h1,List.getElem?_eq_getElem (show j<hm.length by omega),Option.bind_some,Option.map_some,Nat.zero_add]
 exact (waitL_erase l hm j hl).symm
theorem came_none {t:Tg} {m:Ms} (h:tagAt m.tag t.wait=none):t.came m=t:=by
 unfold Tg.came
 rw [tagAt_none _ _ h]
theorem came_put {t:Tg} {m:Ms} {j:Nat} (h:tagAt m.tag t.wait=some j) (hj:j<t.wait.length) (hs:t.wait.Pairwise (fun a b=>a.tag<b.tag)) (h2:¬ 2≤(t.wait[j].put m.tt).hv.length):t.came m={ t with wait:=t.wait.set j (t.wait[j].put m.tt) }:=by
 obtain ⟨h1,e1,e2⟩:=tagAt_spec _ _ _ h
 unfold Tg.came
 rw [e2]
 dsimp only
 rw [if_neg h2,wait_put t.wait j hj e1 hs]
theorem came_full {t:Tg} {m:Ms} {j:Nat} (h:tagAt m.tag t.wait=some j) (hj:j<t.wait.length) (hs:t.wait.Pairwise (fun a b=>a.tag<b.tag)) (h2:2≤(t.wait[j].put m.tt).hv.length):t.came m={ t with wait:=t.wait.eraseIdx j,done:=if m.tag∈t.done then t.done else t.done ++ [m.tag] }:=by
 obtain ⟨h1,e1,e2⟩:=tagAt_spec _ _ _ h
 unfold Tg.came
 rw [e2]
 dsimp only
 rw [if_pos h2,wait_gone t.wait j hj e1 hs]
section
variable {X:Nat→Prop} {w0 w w1 w2 w3:World} {T:Nat} {m:Tm} {t:Tg}
theorem hm_ne (h:TgB X w0 w T m t) {i j:Nat} (hi:i<m.hm.length) (hj:j<m.hm.length) (hij:i≠j):m.hm[i]≠m.hm[j]:=by
 have:=List.pairwise_iff_getElem.1 h.apart
 rcases Nat.lt_or_gt_of_ne hij with q | q
 ·exact this i j hi hj q
 ·exact fun e=>this j i hj hi q e.symm
theorem TgB.had (h:TgB X w0 w T m t) (lt:∀ b,X b→b<w.heap.size) {j:Nat} (hj:j<t.wait.length) (hjm:j<m.hm.length) (tt:Int) (k1:Keeps (·=m.hm[j]) w w1) (i1:IMap w1 m.hm[j] (boolL (t.wait[j].put tt).hv)):TgB X w0 w1 T m { t with wait:=t.wait.set j (t.wait[j].put tt) }:=by
 have kp:Keeps (fun b=>b=m.W∨b=m.N∨b∈m.hm) w w1:=k1.mono (fun b e=>.inr (.inr (e▸List.getElem_mem hjm)))
 have q:=h.have' j hjm hj
 refine h.reMaps kp (fun b e=>e) m.hm _ t.done ?_ (by rw [List.length_set]; exact h.wl) (fun i h1 h2=>?_) h.apart (h.done.move (k1.block _ (Ne.symm q.2.2.1) h.done.lt))
 ·rw [waitL_set _ _ _ (t.wait[j].put tt) hj rfl rfl rfl]
  exact h.wait.move (k1.block _ (Ne.symm q.2.1) h.wait.lt)
 ·have h2':i<t.wait.length:=by simpa using h2
  obtain ⟨q1,q2,q3,q4⟩:=h.have' i h1 h2'
  refine ⟨q1,q2,q3,?_⟩
  by_cases e:i=j
  ·subst e
   rw [List.getElem_set_self]
   exact i1
  ·rw [List.getElem_set_ne (Ne.symm e)]
   exact q4.move (k1.block _ (hm_ne h h1 hjm e) (lt _ q1))
theorem TgB.gone (h:TgB X w0 w T m t) (lt:∀ b,X b→b<w.heap.size) {j:Nat} (hj:j<t.wait.length) (hjm:j<m.hm.length) (done':List Int) (k1:Keeps (·=m.hm[j]) w w1) (k2:Keeps (·=m.W) w1 w2) (i2:IMap w2 m.W (waitL (t.wait.eraseIdx j) (m.hm.eraseIdx j))) (k3:Keeps (·=m.N) w2 w3) (i3:IMap w3 m.N (boolL done')) :
  TgB X w0 w3 T { m with hm:=m.hm.eraseIdx j } { t with wait:=t.wait.eraseIdx j,done:=done' }∧Keeps (fun b=>b=m.W∨b=m.N∨b∈m.hm) w w3:=by
 have kp:Keeps (fun b=>b=m.W∨b=m.N∨b∈m.hm) w w3:=((k1.mono (fun b e=>.inr (.inr (e▸List.getElem_mem hjm)))).trans (k2.mono (fun b e=>.inl e))).trans (k3.mono (fun b e=>.inr (.inl e)))
 refine ⟨h.reMaps kp (fun b e=>e) _ _ done' (i2.move (k3.block _ h.wn i2.lt)) (by rw [List.length_eraseIdx,List.length_eraseIdx,if_pos hj,if_pos hjm,h.wl]) (fun i h1 h2=>?_) (h.apart.sublist (List.eraseIdx_sublist _ _)) i3,kp⟩
 have e:∃ i',∃ (a:i'<m.hm.length) (b:i'<t.wait.length),i'≠j∧(m.hm.eraseIdx j)[i]=m.hm[i']∧(t.wait.eraseIdx j)[i]=t.wait[i']:=by
  have l1:i<m.hm.length - 1:=by simpa [List.length_eraseIdx,hjm] using h1
  have:=h.wl
  by_cases hij:i<j
  ·exact ⟨i,by omega,by omega,by omega,by rw [List.getElem_eraseIdx_of_lt _ hij],by rw [List.getElem_eraseIdx_of_lt _ hij]⟩
  ·exact ⟨i+1,by omega,by omega,by omega,by rw [List.getElem_eraseIdx_of_ge _ (by omega)],by rw [List.getElem_eraseIdx_of_ge _ (by omega)]⟩
 obtain ⟨i',a,b,hne,e1,e2⟩:=e
 rw [e1,e2]
 obtain ⟨q1,q2,q3,q4⟩:=h.have' i' a b
 refine ⟨q1,q2,q3,q4.move ?_⟩
 have l0:=lt _ q1
 have l1:=Nat.lt_of_lt_of_le l0 k1.size
 have l2:=Nat.lt_of_lt_of_le l1 k2.size
 exact (k3.block _ q3 l2).trans ((k2.block _ q2 l1).trans (k1.block _ (hm_ne h a hjm hne) l0))
end
end Go.Proofs.YtajegiifabfcjaaGreatDoor
