import Derived.Test.YtjalgpcigojpkaaGreatDoorQ32
namespace Go.Proofs.YtjalgpcigojpkaaGreatDoor
section
open Go.RowKit Go.Sort
theorem Ap{P:Program}{ops:Array Oper}{o:Oper}{a:Act}{w:World}{K:Act->World->Prop}{Q:Exit->Act->World->Prop}{E:Prop}(I9:o.guard=none)(s x:Operand)(t kt:TypeId)(ho:o.op=.call { callee:=.builtin .delete,args:=#[s,x],argTypes:=#[t,kt] })(w':World)(II:(Builtin.delete_ #[t,kt] o.type #[a.eval s,a.eval x]).run P w=.ok (.tuple #[]) w')(hK:K (a.put o.dst (.tuple #[])) w') : if Region.wanted o (yielded ops a.tmps)=true then Oper.wp P o a w K Q else E:=by
 have hw:Region.wanted o (yielded ops a.tmps)=true:=by simp[Region.wanted,I9]
 rw[if_pos hw];unfold Oper.wp execOp;simp only[ho,resolve,invoke,builtin,Sem.run_bind,Sem.run_pure,Result.andThen_ok,List.map_toArray,List.map_cons,List.map_nil,II];exact hK
theorem uY{P:Program}(w:World){ops:Array Oper}{l:List Oper}{o:Oper}{a:Act}{Q:Exit->Act->World->Prop}(I9:o.guard=none)(t:TypeId)(m k x:Operand)(Jt:o.op=.mapUpdate t m k x)(w':World)(II:(Instr.mapUpdate t (a.eval m) (a.eval k) (a.eval x)).run P w=.ok () w')(h:wpList P ops Q l (a.put o.dst undef) w'):wpList P ops Q (o :: l) a w :=
 wpList_plain I9 λK hK=>by
  have e:(execOp a.eval o).run P w=.ok .skip w':=by simp[execOp,Jt,II,Result.andThen]
  unfold Oper.wp;rw[e];exact hK _ _ h
theorem tQ{P:Program}{w:World}{T kt et:TypeId}(hT:P.underlying T=some (.map kt et)){b:Nat}{l:List (Int × Value)}(h:df w b l):∀ty,(Builtin.len_ #[T] ty #[.map (some b)]).run P w=.ok (.int .i64 (l.length:Int)) w:=λty=>by
 obtain⟨es,cl,hb,he,-⟩:=h
 have hz:es.size=l.length:=by have:=congrArg List.length he;simpa using this
 simp[Builtin.len_,run_underlying hT,MapKept.run_getObj_map hb,hz];rfl
theorem cells3{W:World}{b:Nat}{v0 v1 v2:Value}{T:TypeId}(h:W.heap[b]?=some (.cells #[v0,v1,v2] T (0,0))) : (W.cell? ⟨b,0,none⟩=some v0/\W.cell? ⟨b,1,none⟩=some v1/\W.cell? ⟨b,2,none⟩=some v2)/\(W.frozen? ⟨b,0,none⟩=false/\W.frozen? ⟨b,1,none⟩=false/\W.frozen? ⟨b,2,none⟩=false):=by
 simp[World.cell?,World.frozen?,h]
def three(w:World)(T:Nat)(v0 v1 v2:Value):World:=((w.setCell ⟨T,0,none⟩ v0).setCell ⟨T,1,none⟩ v1).setCell ⟨T,2,none⟩ v2
theorem Ag{wx:World}{T:Nat}{x0 x1 x2:Value}{Ty:TypeId}(h:wx.heap[T]?=some (.cells #[x0,x1,x2] Ty (0,0)))(v0 v1 v2:Value):(three wx T v0 v1 v2).heap[T]?=some (.cells #[v0,v1,v2] Ty (0,0)) :=
 one_setCell (one_setCell (one_setCell h v0) v1) v2
theorem tC{B:Nat}{a wx:World}(h:Below B a wx){T:Nat}(hT:B<=T)(v0 v1 v2:Value):Below B a (three wx T v0 v1 v2) :=
 ((h.setCell (p:=⟨T,0,none⟩) hT v0).setCell (p:=⟨T,1,none⟩) hT v1).setCell (p:=⟨T,2,none⟩) hT v2
def fi(k:Int):List Wt->Option Nat
 | []=>none
 | x :: l=>if x.tag=k then some 0 else(fi k l).map (·+1)
theorem gd(k:Int):∀(l:List Wt) (j:Nat),fi k l=some j->∃h:j<l.length,l[j].tag=k/\l.find? (λw=>decide (w.tag=k))=some l[j]
 | [],_,h=>by cases h
 | x :: l,j,h=>by
  unfold fi at h;by_cases hx:x.tag=k
  .rw[if_pos hx]at h;cases h
   exact⟨by simp,hx,by simp[hx]⟩
  .rw[if_neg hx]at h
   cases hq:fi k l with
   | none=>rw[hq]at h; cases h
   | some q =>
    rw[hq]at h
    obtain rfl:q+1=j:=by simpa using h
    obtain⟨h1,h2,h3⟩:=gd k l q hq;exact⟨by simpa using h1,by simpa using h2,by simp[hx,h3]⟩
theorem oe(k:Int):∀(l:List Wt),fi k l=none->l.find? (λw=>decide (w.tag=k))=none
 | [],_=>rfl
 | x :: l,h=>by
  unfold fi at h;by_cases hx:x.tag=k
  .rw[if_pos hx]at h; cases h
  .rw[if_neg hx]at h
   have hq:fi k l=none:=by simpa using h
   simp[hx,oe k l hq]
theorem kO(k:Int):∀(l:List Wt) (hm:List Nat) (i:Nat),l.length=hm.length->dG k (bY l hm) i=match fi k l with | none=>none | some j=>(l[j]?).bind λx=>(hm[j]?).map λb=>(i+j,.agg #[.int .i64 x.who,.int .i64 x.num,.map (some b)])
 | [],[],_,_=>rfl
 | [],_ :: _,_,h=>by simp at h
 | _ :: _,[],_,h=>by simp at h
 | x :: l,b :: hm,i,h=>by
  unfold bY dG fi;by_cases hx:x.tag=k
  .rw[if_pos hx,if_pos hx]; simp
  .rw[if_neg hx,if_neg hx,kO k l hm (i+1) (by simpa using h)]
   cases hq:fi k l with
   | none=>rfl
   | some q=>simp only[Option.map_some,List.getElem?_cons_succ]; rw[show i+1+q=i+(q+1) by omega]
theorem qn:∀(l:List Wt) (hm:List Nat) (j:Nat) (y:Wt) (h:j<l.length),y.tag=l[j].tag->y.who=l[j].who->y.num=l[j].num->bY (l.set j y) hm=bY l hm
 | [],_,_,_,h,_,_,_=>by simp at h
 | _ :: _,[],j,_,_,_,_,_=>by cases j<;>simp[bY]
 | x :: l,b :: hm,0,y,_,e1,e2,e3=>by simp at e1 e2 e3; simp[bY,e1,e2,e3]
 | x :: l,b :: hm,j+1,y,h,e1,e2,e3=>by simp only[List.set_cons_succ,bY];rw[qn l hm j y (by simpa using h) (by simpa using e1) (by simpa using e2) (by simpa using e3)]
theorem mM:∀(l:List Wt) (hm:List Nat) (j:Nat),l.length=hm.length->bY (l.eraseIdx j) (hm.eraseIdx j)=(bY l hm).eraseIdx j
 | [],[],_,_=>by simp[bY]
 | [],_ :: _,_,h=>by simp at h
 | _ :: _,[],_,h=>by simp at h
 | _ :: _,_ :: _,0,_=>by simp[bY]
 | x :: l,b :: hm,j+1,h=>by simp only[List.eraseIdx_cons_succ,bY];rw[mM l hm j (by simpa using h)]
theorem filter_all{k:Int}:∀ {l:List Wt},(∀x∈l,x.tag≠k)->l.filter (λw=>decide (w.tag≠k))=l
 | [],_=>rfl
 | x :: l,h=>by rw[List.filter_cons_of_pos (by simpa using h x (by simp)),filter_all (λy hy=>h y (by simp[hy]))]
theorem ql{k:Int}:∀(l:List Wt) (j:Nat) (h:j<l.length),l[j].tag=k->l.Pairwise (λa b=>a.tag<b.tag)->l.filter (λw=>decide (w.tag≠k))=l.eraseIdx j
 | [],_,h,_,_=>by simp at h
 | x :: l,0,_,e,hp=>by
  have e':x.tag=k:=e;rw[List.filter_cons_of_neg (by simp[e'])];rw[List.eraseIdx_cons_zero];exact filter_all (λy hy=>by have:=(List.pairwise_cons.1 hp).1 y hy; omega)
 | x :: l,j+1,h,e,hp=>by
  have hl:j<l.length:=by simpa using h
  have e':l[j].tag=k:=by simpa using e
  have:=(List.pairwise_cons.1 hp).1 l[j] (List.getElem_mem hl);rw[List.filter_cons_of_pos (by simp; omega),ql l j hl e' (List.pairwise_cons.1 hp).2,List.eraseIdx_cons_succ]
theorem xx{k:Int}{f:Wt->Wt}:∀ {l:List Wt},(∀x∈l,x.tag≠k)->l.map (λw=>if w.tag=k then f w else w)=l
 | [],_=>rfl
 | x :: l,h=>by rw[List.map_cons,if_neg (h x (by simp)),xx (λy hy=>h y (by simp[hy]))]
theorem te{k:Int}{f:Wt->Wt}:∀(l:List Wt) (j:Nat) (h:j<l.length),l[j].tag=k->l.Pairwise (λa b=>a.tag<b.tag)->l.map (λw=>if w.tag=k then f w else w)=l.set j (f l[j])
 | [],_,h,_,_=>by simp at h
 | x :: l,0,_,e,hp=>by
  have e':x.tag=k:=e;rw[List.map_cons,if_pos e',xx (λy hy=>by have:=(List.pairwise_cons.1 hp).1 y hy; omega)];rfl
 | x :: l,j+1,h,e,hp=>by
  have hl:j<l.length:=by simpa using h
  have e':l[j].tag=k:=by simpa using e
  have:=(List.pairwise_cons.1 hp).1 l[j] (List.getElem_mem hl);rw[List.map_cons,if_neg (by omega),te l j hl e' (List.pairwise_cons.1 hp).2];rfl
theorem uf(l:List Int)(k:Int):yy (eh l) k (.bool true)=eh (if k∈l then l else l ++ [k]):=by
 have key:∀(l:List Int) (i:Nat),(k ∉ l->dG k (eh l) i=none)/\(k∈l->∃j v,dG k (eh l) i=some (i+j,v)/\(eh l)[j]?=some (k,.bool true)):=by
  intro l
  induction l with
  | nil=>intro i; exact⟨λ_=>rfl,λh=>by cases h⟩
  | cons x l ih =>
   intro i;obtain⟨h1,h2⟩:=ih (i+1);unfold eh at h1 h2⊢;rw[List.map_cons];unfold dG;by_cases hx:x=k
   .refine⟨λh=>absurd (by simp[hx]) h,λ_=>⟨0,.bool true,by rw[if_pos hx]; rfl,by simp[hx]⟩⟩
   .refine⟨λh=>by rw[if_neg hx]; exact h1 (λq=>h (by simp[q])),λh=>?_⟩;obtain⟨j,v,e1,e2⟩:=h2 (by simpa[Ne.symm hx] using h);exact⟨j+1,v,by rw[if_neg hx,e1]; congr 2; omega,by simpa using e2⟩
 obtain⟨h1,h2⟩:=key l 0;unfold yy;by_cases hk:k∈l
 .rw[if_pos hk];obtain⟨j,v,e1,e2⟩:=h2 hk;rw[e1];simp only[Nat.zero_add];obtain⟨hj,e3⟩:=List.getElem?_eq_some_iff.1 e2;rw[<-e3];exact List.set_getElem_self hj
 .rw[if_neg hk,h1 hk];simp[eh]
theorem CJ{k:Int}{l:List Wt}{hm:List Nat}(hl:l.length=hm.length){j:Nat}(h:fi k l=some j):EB (bY l hm) k=bY (l.eraseIdx j) (hm.eraseIdx j):=by obtain⟨h1,h2,-⟩:=gd k l j h;unfold EB;rw[kO k l hm 0 hl,h];simp only[List.getElem?_eq_getElem h1,List.getElem?_eq_getElem (show j<hm.length by omega),Option.bind_some,Option.map_some,Nat.zero_add];exact(mM l hm j hl).symm
theorem zJ{t:Tg}{m:Ms}(h:fi m.tag t.wait=none):t.came m=t:=by unfold Tg.came;rw[oe _ _ h]
theorem CV{t:Tg}{m:Ms}{j:Nat}(h:fi m.tag t.wait=some j)(hj:j<t.wait.length)(hs:t.wait.Pairwise (λa b=>a.tag<b.tag))(h2:¬ 2<=(t.wait[j].put m.tt).hv.length):t.came m={ t with wait:=t.wait.set j (t.wait[j].put m.tt) }:=by obtain⟨h1,e1,e2⟩:=gd _ _ _ h;unfold Tg.came;rw[e2];dsimp only;rw[if_neg h2,te t.wait j hj e1 hs]
theorem zK{t:Tg}{m:Ms}{j:Nat}(h:fi m.tag t.wait=some j)(hj:j<t.wait.length)(hs:t.wait.Pairwise (λa b=>a.tag<b.tag))(h2:2<=(t.wait[j].put m.tt).hv.length):t.came m={ t with wait:=t.wait.eraseIdx j,done:=if m.tag∈t.done then t.done else t.done ++ [m.tag] }:=by obtain⟨h1,e1,e2⟩:=gd _ _ _ h;unfold Tg.came;rw[e2];dsimp only;rw[if_pos h2,ql t.wait j hj e1 hs]
section
variable {X:Nat->Prop} {w0 w w1 w2 w3:World} {T:Nat} {m:Tm} {t:Tg}
theorem EV(h:fA X w0 w T m t){i j:Nat}(hi:i<m.hm.length)(hj:j<m.hm.length)(Ln:i≠j):m.hm[i]≠m.hm[j]:=by
 have:=List.pairwise_iff_getElem.1 h.apart
 rcases Nat.lt_or_gt_of_ne Ln with q | q
 .exact this i j hi hj q
 .exact λe=>this j i hj hi q e.symm
theorem fA.had(h:fA X w0 w T m t)(lt:∀b,X b->b<w.heap.size){j:Nat}(hj:j<t.wait.length)(I8:j<m.hm.length)(tt:Int)(k1:ac (·=m.hm[j]) w w1)(i1:df w1 m.hm[j] (eh (t.wait[j].put tt).hv)):fA X w0 w1 T m { t with wait:=t.wait.set j (t.wait[j].put tt) }:=by
 have kp:ac (λb=>b=m.W\/b=m.N\/b∈m.hm) w w1:=k1.mono (λb e=>.inr (.inr (e▸List.getElem_mem I8)));have q:=h.have' j I8 hj;refine h.reMaps kp (λb e=>e) m.hm _ t.done ?_ (by rw[List.length_set]; exact h.wl) (λi h1 h2=>?_) h.apart (h.done.move (k1.block _ (Ne.symm q.2.2.1) h.done.lt))
 .rw[qn _ _ _ (t.wait[j].put tt) hj rfl rfl rfl];exact h.wait.move (k1.block _ (Ne.symm q.2.1) h.wait.lt)
 .have h2':i<t.wait.length:=by simpa using h2
  obtain⟨q1,q2,q3,q4⟩:=h.have' i h1 h2';refine⟨q1,q2,q3,?_⟩;by_cases e:i=j
  .subst e;rw[List.getElem_set_self];exact i1
  .rw[List.getElem_set_ne (Ne.symm e)];exact q4.move (k1.block _ (EV h h1 I8 e) (lt _ q1))
theorem fA.gone(h:fA X w0 w T m t)(lt:∀b,X b->b<w.heap.size){j:Nat}(hj:j<t.wait.length)(I8:j<m.hm.length)(done':List Int)(k1:ac (·=m.hm[j]) w w1)(k2:ac (·=m.W) w1 w2)(i2:df w2 m.W (bY (t.wait.eraseIdx j) (m.hm.eraseIdx j)))(k3:ac (·=m.N) w2 w3)(i3:df w3 m.N (eh done')) : fA X w0 w3 T { m with hm:=m.hm.eraseIdx j } { t with wait:=t.wait.eraseIdx j,done:=done' }/\ac (λb=>b=m.W\/b=m.N\/b∈m.hm) w w3:=by
 have kp:ac (λb=>b=m.W\/b=m.N\/b∈m.hm) w w3:=((k1.mono (λb e=>.inr (.inr (e▸List.getElem_mem I8)))).trans (k2.mono (λb e=>.inl e))).trans (k3.mono (λb e=>.inr (.inl e)));refine⟨h.reMaps kp (λb e=>e) _ _ done' (i2.move (k3.block _ h.wn i2.lt)) (by rw[List.length_eraseIdx,List.length_eraseIdx,if_pos hj,if_pos I8,h.wl]) (λi h1 h2=>?_) (h.apart.sublist (List.eraseIdx_sublist _ _)) i3,kp⟩
 have e:∃i',∃(a:i'<m.hm.length) (b:i'<t.wait.length),i'≠j/\(m.hm.eraseIdx j)[i]=m.hm[i']/\(t.wait.eraseIdx j)[i]=t.wait[i']:=by
  have l1:i<m.hm.length - 1:=by simpa[List.length_eraseIdx,I8] using h1
  have:=h.wl;by_cases Ln:i<j
  .exact⟨i,by omega,by omega,by omega,by rw[List.getElem_eraseIdx_of_lt _ Ln],by rw[List.getElem_eraseIdx_of_lt _ Ln]⟩
  .exact⟨i+1,by omega,by omega,by omega,by rw[List.getElem_eraseIdx_of_ge _ (by omega)],by rw[List.getElem_eraseIdx_of_ge _ (by omega)]⟩
 obtain⟨i',a,b,Ik,e1,e2⟩:=e;rw[e1,e2];obtain⟨q1,q2,q3,q4⟩:=h.have' i' a b;refine⟨q1,q2,q3,q4.move ?_⟩;have l0:=lt _ q1;have l1:=Nat.lt_of_lt_of_le l0 k1.size;have l2:=Nat.lt_of_lt_of_le l1 k2.size;exact(k3.block _ q3 l2).trans ((k2.block _ q2 l1).trans (k1.block _ (EV h a I8 Ik) l0))
end
