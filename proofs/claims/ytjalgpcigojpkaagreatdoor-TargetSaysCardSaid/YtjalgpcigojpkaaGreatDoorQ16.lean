import Derived.Test.YtjalgpcigojpkaaGreatDoorQ09
set_option maxRecDepth 99999
set_option maxHeartbeats 99999999
namespace Go.Proofs.YtjalgpcigojpkaaGreatDoor
section
open Go.RowKit Go.Sort
def dK (w:World)(b:Nat)(o:Obj):World:={ w with heap:=w.heap.setIfInBounds b o }
theorem dV{w:World}{b:Nat}{o p:Obj}(h:w.heap[b]?=some p):(dK w b o).heap[b]?=some o:=(MapKept.heap_set h).1
theorem nH{w:World}{b k:Nat}{o:Obj}(h:k≠b):(dK w b o).heap[k]?=w.heap[k]?:=by unfold dK; simp[Ne.symm h]
theorem me(w:World)(b:Nat)(o:Obj):(dK w b o).heap.size=w.heap.size:=by simp[dK]
theorem Below.setO{B:Nat}{a w:World}(h:Below B a w){b:Nat}(hb:B<=b)(o:Obj):Below B a (dK w b o) :=
 h.trans ⟨rfl,rfl,rfl,by rw[me]; exact Nat.le_refl _,λk hk=>nH (by omega)⟩
section
variable {P:Program} {ops:Array Oper} {Q:Exit->Act->World->Prop} {md:Region.Mode} {S:World->Prop}
theorem grid(B:Nat)(c:Nat->Nat)(m a b:Nat)(F:Nat->Option Nat->Act)(L:Nat->Nat->Array Bool)(ka va kb vb:Value)
  (hc:∀i j,i<3->j<4->(L i j).setIfInBounds (c i) true=L (i+1) j) (h01:∀i,i<=3->(L i 0).setIfInBounds m true=L i 1)
  (h12:∀i,i<=3->(L i 1).setIfInBounds a true=L i 2) (h13:∀i,i<=3->(L i 1).setIfInBounds b true=L i 3) (h24:∀i,i<=3->(L i 2).setIfInBounds b true=L i 4) (h34:∀i,i<=3->(L i 3).setIfInBounds a true=L i 4)
  (hrB:((List.range 4).all λi=>(List.range 4).all λj=>!(Region.ready md ops (L i j)).isEmpty && (Region.ready md ops (L i j)).all λx=>(x == c i && decide (i<3)) || (x == m && j == 0) || (x == a && (j == 1 || j == 3)) || (x == b && (j == 1 || j == 2)))=true)
  (hcall:∀i blk w (K:Act->World->Prop),i<3->S w->(∀w',S w'->Below w.heap.size w w'->K (F (i+1) blk) w')->wpOp P ops Q (c i) K (F i blk) w)
  (hmake:∀i w (K:Act->World->Prop),i<=3->S w->K (F i (some w.heap.size)) (w.alloc (.map #[] 0))->wpOp P ops Q m K (F i none) w)
  (ha:∀i blk w (K:Act->World->Prop) es cl,i<=3->S w->w.heap[blk]?=some (.map es cl)->(es=#[]\/es=#[⟨kb,vb,0⟩])->K (F i (some blk)) (dK w blk (.map (es.push ⟨ka,va,cl⟩) (cl+1)))->wpOp P ops Q a K (F i (some blk)) w)
  (hb:∀i blk w (K:Act->World->Prop) es cl,i<=3->S w->w.heap[blk]?=some (.map es cl)->(es=#[]\/es=#[⟨ka,va,0⟩])->K (F i (some blk)) (dK w blk (.map (es.push ⟨kb,vb,cl⟩) (cl+1)))->wpOp P ops Q b K (F i (some blk)) w)
  (hSm:∀w,S w->S (w.alloc (.map #[] 0))) (hSs:∀w blk o,S w->B<=blk->S (dK w blk o)) (hSB:∀w,S w->B<=w.heap.size) (fuel:Nat)
  (hfin:∀i blk w es,i<=3->S w->B<=blk->w.heap[blk]?=some (.map es 2)->(es=#[⟨ka,va,0⟩,⟨kb,vb,1⟩]\/es=#[⟨kb,vb,0⟩,⟨ka,va,1⟩])->wpAnyH P md ops Q S (fuel+(3 - i)) (L i 4) (F i (some blk)) w) :
  ∀w,S w->wpAnyH P md ops Q S (fuel+6) (L 0 0) (F 0 none) w:=by
 have hrA:∀i j,i<=3->j<4->(!(Region.ready md ops (L i j)).isEmpty && (Region.ready md ops (L i j)).all λx=>(x == c i && decide (i<3)) || (x == m && j == 0) || (x == a && (j == 1 || j == 3)) || (x == b && (j == 1 || j == 2)))=true:=λi j hi hj =>
  List.all_eq_true.1 (List.all_eq_true.1 hrB i (List.mem_range.2 (by omega))) j (List.mem_range.2 hj)
 have Ik:∀i j,i<=3->j<4->Region.ready md ops (L i j)≠[]:=λi j hi hj e=>by have:=hrA i j hi hj;rw[e]at this;cases this
 have hr:∀i j,i<=3->j<4->∀x∈Region.ready md ops (L i j),(x=c i/\i<3)\/(x=m/\j=0)\/(x=a/\(j=1\/j=3))\/(x=b/\(j=1\/j=2)):=λi j hi hj x hx=>by have:=hrA i j hi hj;rw[Bool.and_eq_true,List.all_eq_true]at this;have:=this.2 x hx;simp only[Bool.or_eq_true,Bool.and_eq_true,beq_iff_eq,decide_eq_true_eq]at this;omega
 have lt_of:∀ {w:World} {blk:Nat} {o:Obj},w.heap[blk]?=some o->blk<w.heap.size:=λh=>(Gl h)
 have T2:∀n i,i+n=3->∀blk w,S w->B<=blk->w.heap[blk]?=some (.map #[⟨ka,va,0⟩] 1)->wpAnyH P md ops Q S (fuel+(3 - i)+1) (L i 2) (F i (some blk)) w:=by
  intro n
  induction n with
  | zero =>
   intro i hi blk w hS hB hh;refine⟨λh0=>absurd h0 (Ik i 2 (by omega) (by omega)),λx hx=>?_⟩
   rcases hr i 2 (by omega) (by omega) x hx with⟨_,h⟩ | ⟨_,h⟩ | ⟨_,h⟩ | ⟨rfl,_⟩
   .omega
   .omega
   .omega
   .refine hb i blk w _ _ _ (by omega) hS hh (.inr rfl) ⟨hSs _ _ _ hS hB,?_⟩;rw[h24 i (by omega)];exact hfin i blk _ _ (by omega) (hSs _ _ _ hS hB) hB (dV hh) (.inl rfl)
  | succ n ih =>
   intro i hi blk w hS hB hh;refine⟨λh0=>absurd h0 (Ik i 2 (by omega) (by omega)),λx hx=>?_⟩
   rcases hr i 2 (by omega) (by omega) x hx with⟨rfl,h⟩ | ⟨_,h⟩ | ⟨_,h⟩ | ⟨rfl,_⟩
   .refine hcall i (some blk) w _ h hS (λw' Kq Jk=>⟨Kq,?_⟩);rw[hc i 2 h (by omega),show fuel+(3 - i)=fuel+(3 - (i+1))+1 by omega];exact ih (i+1) (by omega) blk w' Kq hB ((Jk.block _ (lt_of hh)).trans hh)
   .omega
   .omega
   .refine hb i blk w _ _ _ (by omega) hS hh (.inr rfl) ⟨hSs _ _ _ hS hB,?_⟩;rw[h24 i (by omega)];exact hfin i blk _ _ (by omega) (hSs _ _ _ hS hB) hB (dV hh) (.inl rfl)
 have T3:∀n i,i+n=3->∀blk w,S w->B<=blk->w.heap[blk]?=some (.map #[⟨kb,vb,0⟩] 1)->wpAnyH P md ops Q S (fuel+(3 - i)+1) (L i 3) (F i (some blk)) w:=by
  intro n
  induction n with
  | zero =>
   intro i hi blk w hS hB hh;refine⟨λh0=>absurd h0 (Ik i 3 (by omega) (by omega)),λx hx=>?_⟩
   rcases hr i 3 (by omega) (by omega) x hx with⟨_,h⟩ | ⟨_,h⟩ | ⟨rfl,_⟩ | ⟨_,h⟩
   .omega
   .omega
   .refine ha i blk w _ _ _ (by omega) hS hh (.inr rfl) ⟨hSs _ _ _ hS hB,?_⟩;rw[h34 i (by omega)];exact hfin i blk _ _ (by omega) (hSs _ _ _ hS hB) hB (dV hh) (.inr rfl)
   .omega
  | succ n ih =>
   intro i hi blk w hS hB hh;refine⟨λh0=>absurd h0 (Ik i 3 (by omega) (by omega)),λx hx=>?_⟩
   rcases hr i 3 (by omega) (by omega) x hx with⟨rfl,h⟩ | ⟨_,h⟩ | ⟨rfl,_⟩ | ⟨_,h⟩
   .refine hcall i (some blk) w _ h hS (λw' Kq Jk=>⟨Kq,?_⟩);rw[hc i 3 h (by omega),show fuel+(3 - i)=fuel+(3 - (i+1))+1 by omega];exact ih (i+1) (by omega) blk w' Kq hB ((Jk.block _ (lt_of hh)).trans hh)
   .omega
   .refine ha i blk w _ _ _ (by omega) hS hh (.inr rfl) ⟨hSs _ _ _ hS hB,?_⟩;rw[h34 i (by omega)];exact hfin i blk _ _ (by omega) (hSs _ _ _ hS hB) hB (dV hh) (.inr rfl)
   .omega
 have T1:∀n i,i+n=3->∀blk w,S w->B<=blk->w.heap[blk]?=some (.map #[] 0)->wpAnyH P md ops Q S (fuel+(3 - i)+2) (L i 1) (F i (some blk)) w:=by
  intro n
  induction n with
  | zero =>
   intro i hi blk w hS hB hh;refine⟨λh0=>absurd h0 (Ik i 1 (by omega) (by omega)),λx hx=>?_⟩
   rcases hr i 1 (by omega) (by omega) x hx with⟨_,h⟩ | ⟨_,h⟩ | ⟨rfl,_⟩ | ⟨rfl,_⟩
   .omega
   .omega
   .refine ha i blk w _ _ _ (by omega) hS hh (.inl rfl) ⟨hSs _ _ _ hS hB,?_⟩;rw[h12 i (by omega)];exact T2 0 i (by omega) blk _ (hSs _ _ _ hS hB) hB (dV hh)
   .refine hb i blk w _ _ _ (by omega) hS hh (.inl rfl) ⟨hSs _ _ _ hS hB,?_⟩;rw[h13 i (by omega)];exact T3 0 i (by omega) blk _ (hSs _ _ _ hS hB) hB (dV hh)
  | succ n ih =>
   intro i hi blk w hS hB hh;refine⟨λh0=>absurd h0 (Ik i 1 (by omega) (by omega)),λx hx=>?_⟩
   rcases hr i 1 (by omega) (by omega) x hx with⟨rfl,h⟩ | ⟨_,h⟩ | ⟨rfl,_⟩ | ⟨rfl,_⟩
   .refine hcall i (some blk) w _ h hS (λw' Kq Jk=>⟨Kq,?_⟩);rw[hc i 1 h (by omega),show fuel+(3 - i)+1=fuel+(3 - (i+1))+2 by omega];exact ih (i+1) (by omega) blk w' Kq hB ((Jk.block _ (lt_of hh)).trans hh)
   .omega
   .refine ha i blk w _ _ _ (by omega) hS hh (.inl rfl) ⟨hSs _ _ _ hS hB,?_⟩;rw[h12 i (by omega)];exact T2 (n+1) i hi blk _ (hSs _ _ _ hS hB) hB (dV hh)
   .refine hb i blk w _ _ _ (by omega) hS hh (.inl rfl) ⟨hSs _ _ _ hS hB,?_⟩;rw[h13 i (by omega)];exact T3 (n+1) i hi blk _ (hSs _ _ _ hS hB) hB (dV hh)
 have T0:∀n i,i+n=3->∀w,S w->wpAnyH P md ops Q S (fuel+(3 - i)+3) (L i 0) (F i none) w:=by
  intro n
  induction n with
  | zero =>
   intro i hi w hS;refine⟨λh0=>absurd h0 (Ik i 0 (by omega) (by omega)),λx hx=>?_⟩
   rcases hr i 0 (by omega) (by omega) x hx with⟨_,h⟩ | ⟨rfl,_⟩ | ⟨_,h⟩ | ⟨_,h⟩
   .omega
   .refine hmake i w _ (by omega) hS ⟨hSm _ hS,?_⟩;rw[h01 i (by omega)];exact T1 0 i (by omega) _ _ (hSm _ hS) (hSB _ hS) (heap_alloc_new w _)
   .omega
   .omega
  | succ n ih =>
   intro i hi w hS;refine⟨λh0=>absurd h0 (Ik i 0 (by omega) (by omega)),λx hx=>?_⟩
   rcases hr i 0 (by omega) (by omega) x hx with⟨rfl,h⟩ | ⟨rfl,_⟩ | ⟨_,h⟩ | ⟨_,h⟩
   .refine hcall i none w _ h hS (λw' Kq _=>⟨Kq,?_⟩);rw[hc i 0 h (by omega),show fuel+(3 - i)+2=fuel+(3 - (i+1))+3 by omega];exact ih (i+1) (by omega) w' Kq
   .refine hmake i w _ (by omega) hS ⟨hSm _ hS,?_⟩;rw[h01 i (by omega)];exact T1 (n+1) i hi _ _ (hSm _ hS) (hSB _ hS) (heap_alloc_new w _)
   .omega
   .omega
 intro w hS;exact T0 3 0 rfl w hS
end
theorem jW{P:Program}{ops:Array Oper}{Q:Exit->Act->World->Prop}{md:Region.Mode}{S S':World->Prop}(h:∀w,S' w->S w):∀(fuel:Nat) (listed:Array Bool) (a:Act) (w:World),wpAnyH P md ops Q S' fuel listed a w->wpAnyH P md ops Q S fuel listed a w
 | 0,_,_,_,hh=>hh
 | fuel+1,_,_,_,hh=>⟨hh.1,λi hi=>wpOp_mono (λa' w' h'=>⟨h _ h'.1,jW h fuel _ a' w' h'.2⟩) (hh.2 i hi)⟩
theorem tail3{P:Program}{ops:Array Oper}{Q:Exit->Act->World->Prop}{md:Region.Mode}{S:World->Prop}{o1 o2:Oper}{v1 v2:Value}(p q:Nat)(c:Nat->Nat)(F F1 G:Nat->Act)(L M:Nat->Array Bool)(fuel:Nat)
  (hp:ops[p]?=some o1) (hq:ops[q]?=some o2) (hsel:Region.noSelect ops=true)
  (hB:((List.range 4).all λi=>Region.free md ops (L i) p && (Region.ready md ops (L i)).contains p && Region.free md ops ((L i).setIfInBounds p true) q && (Region.ready md ops ((L i).setIfInBounds p true)).contains q && (decide (i=3) || Region.ready md ops (M i) == [c i]))=true)
  (hLM:∀i,i<=3->((L i).setIfInBounds p true).setIfInBounds q true=M i) (hM:∀i,i<3->(M i).setIfInBounds (c i) true=M (i+1))
  (hF:∀i,i<=3->(F i).put o1.dst v1=F1 i/\(F1 i).put o2.dst v2=G i)
  (hQ1:∀c a w,Q (.panic c) (Act.put a o1.dst v1) w->Q (.panic c) a w) (hQ2:∀c a w,Q (.panic c) (Act.put a o2.dst v2) w->Q (.panic c) a w)
  (hy1:∀i,i<=3->YieldsIf P ops S o1 v1 (F i)) (hy2:∀i,i<=3->YieldsIf P ops S o2 v2 (F1 i))
  (hcall:∀i w (K:Act->World->Prop),i<3->S w->(∀w',S w'->K (G (i+1)) w')->wpOp P ops Q (c i) K (G i) w)
  (h3:∀w,S w->wpAnyH P md ops Q S fuel (M 3) (G 3) w) :
  ∀i,i<=3->∀w,S w->wpAnyH P md ops Q S (fuel+(3 - i)+1+1) (L i) (F i) w:=by
 have hA:∀i,i<=3->_:=λi hi=>List.all_eq_true.1 hB i (List.mem_range.2 (by omega));simp only[Bool.and_eq_true,Bool.or_eq_true,decide_eq_true_eq,beq_iff_eq]at hA
 have C:∀n i,i+n=3->∀w,S w->wpAnyH P md ops Q S (fuel+(3 - i)) (M i) (G i) w:=by
  intro n
  induction n with
  | zero =>
   intro i hi w hS
   obtain rfl:i=3:=by omega
   exact h3 w hS
  | succ n ih =>
   intro i hi w hS
   have hr:Region.ready md ops (M i)=[c i]:=by
    rcases (hA i (by omega)).2 with h | h
    .omega
    .exact h
   rw[show fuel+(3 - i)=fuel+(3 - (i+1))+1 by omega];refine⟨λh0=>(by rw[hr]at h0; cases h0),λx hx=>?_⟩;rw[hr]at hx;obtain rfl:=List.mem_singleton.1 hx;refine hcall i w _ (by omega) hS (λw' Kq=>⟨Kq,?_⟩);rw[hM i (by omega)];exact ih (i+1) (by omega) w' Kq
 intro i hi w hS;obtain⟨⟨⟨⟨a1,a2⟩,a3⟩,a4⟩,-⟩:=hA i hi;refine wpAnyH_take hp hsel a1 a2 hQ1 (hy1 i hi) hS ?_;rw[(hF i hi).1];refine wpAnyH_take hq hsel a3 a4 hQ2 (hy2 i hi) hS ?_;rw[(hF i hi).2,hLM i hi];exact C (3 - i) i (by omega) w hS
theorem jg{P:Program}{w:World}{mty kt et:TypeId}{d:TypeDesc}{r:Nat}{es:Array MapEntry}{clock:Nat}{key value:Value}(hm:P.underlying mty=some (.map kt et))(hd:P.underlying kt=some d)(hb:w.heap[r]?=some (.map es clock))(hk:MapKept.IsKey d key)(hks:∀x∈es.toList,MapKept.IsKey d x.key)(hn:∀x∈es.toList,x.key≠key) : (Instr.mapUpdate mty (.map (some r)) key value).run P w=.ok () (dK w r (.map (es.push ⟨key,value,clock⟩) (clock+1))):=by
 rcases MapKept.findNow_spec hk es.toList 0 hks with⟨h1,_⟩ | ⟨j,e,_,h2,h3⟩
 .simp[Instr.mapUpdate,run_underlying hm,MapKept.run_getObj_map hb,MapKept.run_checkKey hd hk,MapKept.run_findKey hd h1,MapKept.run_setObj_map _ hb,Result.andThen,dK]
 .exact absurd h3 (hn e (List.mem_of_getElem? h2))
theorem AC{P:Program}{w:World}{mty kt et:TypeId}{d:TypeDesc}{r:Nat}{es:Array MapEntry}{clock:Nat}{key v:Value}(hm:P.underlying mty=some (.map kt et))(hd:P.underlying kt=some d)(hb:w.heap[r]?=some (.map es clock))(hk:MapKept.IsKey d key){j:Nat}(hf:Instr.findNow d key es.toList 0=some (some (j,v)))(ok:Bool) : (Instr.lookup mty (.map (some r)) key ok).run P w=.ok (if ok then .tuple #[v,.bool true] else v) w:=by
 unfold Instr.lookup;simp[run_underlying hm,MapKept.run_getObj_map hb,MapKept.run_checkKey hd hk,MapKept.run_findKey hd hf,Result.andThen]
end
section
open Go.RowKit
section
variable {P:Program} {ops:Array Oper} {Q:Exit->Act->World->Prop} {md:Region.Mode} {S:World->Prop}
theorem CU(n:Nat)(c:Nat->Nat)(m:Nat)(L:Nat->Bool->Array Bool)(R R':Nat->Act->World->Prop)
  (hB:((List.range (n+1)).all λi=>!(Region.ready md ops (L i false)).isEmpty && ((Region.ready md ops (L i false)).all λx=>(x == c i && decide (i<n)) || x == m) && (decide (i=n) || Region.ready md ops (L i true) == [c i]))=true)
  (hL:∀i b,i<n->(L i b).setIfInBounds (c i) true=L (i+1) b) (hLm:∀i,i<=n->(L i false).setIfInBounds m true=L i true)
  (hS:∀i a w,R i a w->S w) (Kq:∀i a w,R' i a w->S w)
  (hm:∀i a w (K:Act->World->Prop),i<=n->R i a w->(∀a' w',R' i a' w'->K a' w')->wpOp P ops Q m K a w)
  (hc:∀i a w (K:Act->World->Prop),i<n->R i a w->(∀a' w',R (i+1) a' w'->K a' w')->wpOp P ops Q (c i) K a w)
  (hc':∀i a w (K:Act->World->Prop),i<n->R' i a w->(∀a' w',R' (i+1) a' w'->K a' w')->wpOp P ops Q (c i) K a w)
  (fuel:Nat) (hfin:∀a w,R' n a w->wpAnyH P md ops Q S fuel (L n true) a w) :
  ∀a w,R 0 a w->wpAnyH P md ops Q S (fuel+n+1) (L 0 false) a w:=by
 have hA:∀i,i<=n->_:=λi hi=>List.all_eq_true.1 hB i (List.mem_range.2 (by omega));simp only[Bool.and_eq_true,Bool.or_eq_true,decide_eq_true_eq,beq_iff_eq,List.all_eq_true]at hA
 have T1:∀k i,i+k=n->∀a w,R' i a w->wpAnyH P md ops Q S (fuel+k) (L i true) a w:=by
  intro k
  induction k with
  | zero =>
   intro i hi a w h; obtain rfl:i=n:=by omega
   exact hfin a w h
  | succ k ih =>
   intro i hi a w h
   have hr:Region.ready md ops (L i true)=[c i]:=by
    rcases (hA i (by omega)).2 with h | h
    .omega
    .exact h
   refine⟨λh0=>(by rw[hr]at h0; cases h0),λx hx=>?_⟩;rw[hr]at hx;obtain rfl:=List.mem_singleton.1 hx;refine hc' i a w _ (by omega) h (λa' w' h'=>⟨Kq _ _ _ h',?_⟩);rw[hL i true (by omega)];exact ih (i+1) (by omega) a' w' h'
 have T0:∀k i,i+k=n->∀a w,R i a w->wpAnyH P md ops Q S (fuel+k+1) (L i false) a w:=by
  intro k
  induction k with
  | zero =>
   intro i hi a w h;obtain⟨⟨h1,h2⟩,-⟩:=hA i (by omega);refine⟨λh0=>(by rw[h0]at h1; cases h1),λx hx=>?_⟩
   rcases h2 x hx with⟨_,h3⟩ | rfl
   .omega
   .refine hm i a w _ (by omega) h (λa' w' h'=>⟨Kq _ _ _ h',?_⟩);rw[hLm i (by omega)];exact T1 0 i hi a' w' h'
  | succ k ih =>
   intro i hi a w h;obtain⟨⟨h1,h2⟩,-⟩:=hA i (by omega);refine⟨λh0=>(by rw[h0]at h1; cases h1),λx hx=>?_⟩
   rcases h2 x hx with⟨rfl,h3⟩ | rfl
   .refine hc i a w _ h3 h (λa' w' h'=>⟨hS _ _ _ h',?_⟩);rw[hL i false h3];exact ih (i+1) (by omega) a' w' h'
   .refine hm i a w _ (by omega) h (λa' w' h'=>⟨Kq _ _ _ h',?_⟩);rw[hLm i (by omega)];exact T1 (k+1) i hi a' w' h'
 intro a w h;exact T0 n 0 (by omega) a w h
end
end
section
open Go.Lib
theorem lh(c:UInt8):∀(n:Nat) (l:Bs),∀x∈splitK [c] 0 n l,x.length<=l.length
 | 0,l=>λx hx=>by simp[splitK]at hx; subst hx; exact Nat.le_refl _
 | n+1,l=>λx hx=>by
  unfold splitK at hx
  split at hx
  .simp at hx; subst hx; exact Nat.le_refl _
  .rcases List.mem_cons.1 hx with rfl | hx
   .simp; omega
   .have:=lh c n _ x hx;simp at this;omega
theorem zF(l:Bs)(c:Bs):(Lib.cut l c).1.length<=l.length/\(Lib.cut l c).2.1.length<=l.length:=by
 unfold Lib.cut
 split
 .simp; omega
 .simp
theorem dz(l:Bs):(aQ l).data.toList=l:=by simp[aQ]
theorem Bi(s:ByteArray):aQ s.data.toList=s:=by simp[aQ]
end
section
open List (getElem_toArray getElem_cons_zero getElem_cons_succ setIfInBounds_toArray set_cons_zero set_cons_succ)
open Go.RowKit
theorem mF:∀n:Fin 41,bits BinOp.and IntKind.u64 (n.val:Int) 4294967295=(n.val:Int):=by decide +kernel
theorem wrap_small:∀n:Fin 41,IntKind.u64.wrap (n.val:Int)=(n.val:Int):=by decide +kernel
theorem yL(n:Nat)(w:World)(hn:n<=40) : Calls Tryz.prog 156 #[.int .u64 1,.int .u64 n] w λe w'=>e=.returned (.tuple #[.int .u64 0,.int .u64 n])/\w'=w:=by
 have q1:bits BinOp.and IntKind.u64 1 4294967295=1:=mF 1;have q2:bits BinOp.and IntKind.u64 (n:Int) 4294967295=(n:Int):=mF ⟨n,by omega⟩
 have q3:(n:Int) / 4294967296=0:=by omega
 have q4:IntKind.u64.wrap (n:Int)=(n:Int):=wrap_small ⟨n,by omega⟩;have q5:IntKind.u64.wrap 0=0:=wrap_small 0;have q6:bits BinOp.and IntKind.u64 0 4294967295=0:=mF 0;go_enter Tryz.func156,Tryz.ntmps156
 go_wp2;exact bodyPost_ret (v:=.tuple #[.int .u64 0,.int .u64 n]) (by simp[results,Tryz.results156,go_sem, *]) rfl ⟨rfl,rfl⟩
theorem D9(n:Nat)(w:World)(hn:n<=40) : Calls Tryz.prog 118 #[.int .u64 1,.int .u64 n] w λe w'=>e=.returned (.tuple #[.int .u64 0,.int .u64 n])/\w'=w:=by
 have M:=Hx (λw=>yL n w hn);clear hn;go_enter Tryz.func118,Tryz.ntmps118
 go_wp2_with fail;refine(M.out _).mono ?_;rintro e w1 ⟨rfl,rfl⟩;go_wp2;exact bodyPost_ret (v:=.tuple #[.int .u64 0,.int .u64 n]) (by simp[results,Tryz.results118,go_sem, *]) rfl ⟨rfl,rfl⟩
theorem xF:(Tryz.prog.info? 9).map (λi=>(i.zero,i.size,i.bytes))=some (some (.string ⟨#[]⟩),1,16):=by kernel_rfl
theorem Be{w:World}{B b n:Nat}{l:List Value}(h:w.ownsRow B 9 1 (.slice (some ⟨b,0,none⟩) n n) n l):∃cur,w.heap[b]?=some (.cells cur 9 (0,0))/\cur.size=n:=by
 rcases h.2 with⟨e,-⟩ | ⟨g,cap,cur,e,-,hg,-,-,hs,-⟩
 .cases e
 .obtain⟨rfl,rfl⟩:b=g/\n=cap:=by simpa using e
  exact⟨cur,hg,by rw[hs]; omega⟩
theorem om{P:Program}{ops:Array Oper}{o:Oper}{a:Act}{w:World}{K:Act->World->Prop}{Q:Exit->Act->World->Prop}{E:Prop}(I9:o.guard=none)(d s:Operand)(t t':TypeId)(ho:o.op=.call { callee:=.builtin .copy,args:=#[d,s],argTypes:=#[t,t'] })(v u:Value)(hd:a.eval d=v)(hs:a.eval s=u){v':Value}{w':World}(hr:(Builtin.copy_ #[t,t'] o.type #[v,u]).run P w=.ok v' w')(h:K (a.put o.dst v') w'):if Region.wanted o (yielded ops a.tmps)=true then Oper.wp P o a w K Q else E:=by
 have hw:Region.wanted o (yielded ops a.tmps)=true:=by simp[Region.wanted,I9]
 rw[if_pos hw];exact Lib.wp_copy_run w d s t t' ho v u hd hs hr h
def Df (w:World)(g n k:Nat)(s:ByteArray):Prop :=
 ∃cur:Array Value,w.heap[g]?=some (.cells cur 9 (0,0))/\cur.size=n/\cur.toList.take k=List.replicate k (.string s)
theorem Df.row{w:World}{g n:Nat}{s:ByteArray}(h:Df w g n n s):eY w g (List.replicate n s):=by obtain⟨cur,h1,h2,h3⟩:=h;exact⟨cur,h1,by simp[h2],by rw[List.length_replicate,h3]; simp[strs]⟩
theorem vB(n:Nat)(s:ByteArray)(b:Nat)(w:World)(hn:1<=n/\n<=40)(hb:w.heap[b]?=some (.cells #[.string s] 9 (0,0))) : Calls Tryz.prog 73 #[.slice (some ⟨b,0,none⟩) 1 1,.int .i64 n] w λe w'=>∃g,e=.returned (.slice (some ⟨g,0,none⟩) n n)/\eY w' g (List.replicate n s)/\w.heap.size<=g/\Below w.heap.size w w':=by
 have M:=Hx (λw=>D9 n w hn.2);have q4:IntKind.u64.wrap (n:Int)=(n:Int):=wrap_small ⟨n,by omega⟩;go_enter Tryz.func73,Tryz.ntmps73
 go_wp2_with fail;refine(M.out _).mono ?_;rintro e w1 ⟨rfl,rfl⟩;obtain⟨i0,hi,Ij,Ii,Im⟩:=info_parts xF;have HB:=Hx hb;have HN:=Hx hn;clear M;go_wp2_with (refine wpList_make_full _ rfl _ _ 146 rfl w1.heap.size 9 i0 (.string ⟨#[]⟩) 1 Tryz.underlying146 hi Ij Ii .i64 .i64 n n n rfl rfl rfl rfl ?b2 ?b3 (Nat.le_refl _) ?_)
 case b2=>have:=HN.out; rw[Im]; omega
 case b3=>have:=HN.out; unfold maxLen; omega
 intro w2 ec hg;obtain⟨G,hG⟩:=Nm w1.heap.size;have B2:=Hs (Below w1.heap.size w1 w2) ((Below.refl _ _).grown hg (by simp) (λk hk=>by simp at hk));obtain⟨cur,hc,Iu⟩:=Be ec
 have lB:b<w1.heap.size:=(Gl HB.out)
 have Ih:=(B2.out.block b lB).trans HB.out
 obtain⟨C0,MC⟩:∃C0:Array Value,C0=(cur.toList.take 0 ++ [Value.string s] ++ cur.toList.drop (0+1)).toArray:=⟨_,rfl⟩
 have hr:(Builtin.copy_ #[146,146] 3 #[.slice (some ⟨w1.heap.size,0,none⟩) n n,.slice (some ⟨b,0,none⟩) 1 1]).run Tryz.prog w2=.ok (goInt 1) (w2.setRow w1.heap.size C0):=by rw[MC];have hn1:=HN.out.1;exact run_copy_row (P:=Tryz.prog) w2 146 146 3 9 w1.heap.size 0 n n ⟨b,0,none⟩ 1 1 cur 9 [.string s] Tryz.underlying146 (by kernel_rfl) hc (by show 1=Nat.min 1 n; exact(Nat.min_eq_left hn1).symm) (World.news_of_block Ih) (by rw[Iu]; simp; omega) (oj [s])
 have RP:=Hs (Df (w2.setRow w1.heap.size C0) w1.heap.size n 1 s) (⟨C0,setRow_heap _ _ _ _ _ _ hc,by rw[MC]; have:=HN.out.1; simp; omega,by rw[MC]; simp⟩);have KK:=Hs (Below w1.heap.size w1 (w2.setRow w1.heap.size C0)) (B2.out.trans ((Hu (ac.refl (·=w1.heap.size) w2) rfl C0).below B2.out.size (λm hm=>by omega)));clear ec hg hc Iu MC Ih lB B2 hG;go_wp2_with (at_builtin; refine Lib.wpList_copy_run _ rfl _ _ 146 146 rfl _ _ rfl rfl hr ?_);clear hr;obtain⟨w3,Ip⟩:=Nn (w2.setRow w1.heap.size C0);rw[<-Ip]at RP KK ⊢;clear Ip;go_loopw [8,37] (λm _ wr=>∃k:Nat,1<=k/\k<=n/\m=.int .i64 k/\Df wr w1.heap.size n k s/\Below w1.heap.size w1 wr) (λm _ _=>n - (intOf m).toNat)
 case atStart=>exact⟨1,by omega,HN.out.1,rfl,RP.out,KK.out⟩
 case round =>
  obtain⟨k,hk1,hk,rfl,rp,kb⟩:=hrel;have RR:=Hx rp;have KB:=Hx kb;clear rp kb RP KK;by_cases lB:k<n
  .go_upto_region 9 with fail
   have hki:(k:Int)<=(n:Int):=by omega
   have LH:(0:Int)<=(k:Int):=by omega
   obtain⟨m,hm,hmk⟩:∃m,m=Nat.min k (n - k)/\m<=k/\m<=n - k/\1<=m:=⟨_,rfl,Nat.min_le_left _ _,Nat.min_le_right _ _,Nat.le_min.2 ⟨hk1,by omega⟩⟩
   obtain⟨cur,hc,Iu,ht⟩:=RR.out
   obtain⟨C1,hC1⟩:∃C1:Array Value,C1=(cur.toList.take k ++ List.replicate m (Value.string s) ++ cur.toList.drop (k+m)).toArray:=⟨_,rfl⟩
   have MN:∀j v,(List.replicate m (Value.string s))[j]?=some v->wr.drew.cell? ((⟨w1.heap.size,0,none⟩:Addr).add j)=some v:=by
    intro j v hj;rw[na]
    have I8:j<m:=by have:=(List.getElem?_eq_some_iff.1 hj).1;simpa using this
    have h2:(cur.toList.take k)[j]?=(List.replicate k (Value.string s))[j]?:=by rw[ht]
    rw[List.getElem?_take_of_lt (by omega)]at h2;show wr.cell? _=_;simp only[World.cell?,hc];rw[show(List.replicate k (Value.string s))[j]?=some (Value.string s) from by rw[List.getElem?_replicate,if_pos (by omega)]]at h2;rw[show(List.replicate m (Value.string s))[j]?=some (Value.string s) from by simp[I8]]at hj;rw[<-hj];simpa using h2
   have hr:=run_copy_row (P:=Tryz.prog) wr.drew 146 146 3 9 w1.heap.size k (n - k) (n - k) ⟨w1.heap.size,0,none⟩ k n cur 9 (List.replicate m (.string s)) Tryz.underlying146 (by kernel_rfl) hc (by rw[List.length_replicate]; exact hm) MN (by rw[List.length_replicate,Iu]; omega) (λu hu=>by rw[List.eq_of_mem_replicate hu]; rfl);rw[List.length_replicate,<-hC1]at hr
   have R2:=Hs (Df (wr.drew.setRow w1.heap.size C1) w1.heap.size n (k+m) s) (⟨C1,setRow_heap _ _ _ _ _ _ hc,by rw[hC1]; simp[Iu]; omega,by
    rw[hC1,ht]
    rw[List.take_append_of_le_length (by simp),List.take_of_length_le (by simp),List.replicate_append_replicate]⟩)
   have K2:=Hs (Below w1.heap.size w1 (wr.drew.setRow w1.heap.size C1)) (KB.out.trans ((Hu ((ac.refl (·=w1.heap.size) wr).drew) rfl C1).below KB.out.size (λm hm=>by omega)));have q7:IntKind.i64.wrap ((k:Int)+(m:Int))=(k:Int)+(m:Int):=IntWalk.i64_in _ (by have:=HN.out; omega);clear hC1 MN hc Iu ht RR KB hm
   have hnk:¬ n=k:=by omega
   go_region_law (first|(refine om (by rfl) _ _ 146 146 (by rfl) (.slice (some ⟨w1.heap.size,k,none⟩) (n - k) (n - k)) (.slice (some ⟨w1.heap.size,0,none⟩) k n) (by simp[Act.eval,Act.put]) (by simp[Act.eval,Act.put]) hr ?_; simp only[Act.put,getElem_toArray,getElem_cons_zero,getElem_cons_succ,setIfInBounds_toArray,set_cons_zero,set_cons_succ]))
   all_goals
    go_simp;go_wp2;go_roundw
    case rel=>exact⟨k+m,by omega,by omega,by go_num,R2.out,K2.out⟩
    case measure=>simp[intOf]; omega
  .obtain rfl:k=n:=by omega
   go_wp2;go_ret;exact⟨_,rfl,RR.out.row,Nat.le_refl _,KB.out⟩
theorem AX{w:World}{B n:Nat}{v:Value}{l:List ByteArray}(h:w.ownsRow B 9 1 v n (strs l))(hn:1<=n) : ∃g c,v=.slice (some ⟨g,0,none⟩) n c/\B<=g/\n<=c/\eY w g l:=by
 have hl:l.length=n:=by have:=h.1; rw[jc]at this; omega
 rcases h.2 with⟨-,h0⟩ | ⟨g,cap,cur,rfl,hB,hg,hc,-,hs,ht⟩
 .omega
 .refine⟨g,cap,rfl,hB,hc,cur,hg,by omega,?_⟩;rw[hl,<-ht]; simp
theorem zH(l:List ByteArray)(n g cap:Nat)(w:World)(hl:l.length=n)(hn:1<=n/\n<=40)(hr:eY w g l) : Calls Tryz.prog 75 #[.slice (some ⟨g,0,none⟩) n cap] w λe w'=>∃g' c',e=.returned (.slice (some ⟨g',0,none⟩) n c')/\eY w' g' l/\n<=c'/\w.heap.size<=g'/\Below w.heap.size w w':=by
 have hq:=λw=>Lib.run_eql_slice_nil (P:=Tryz.prog) w 146 9 (some ⟨g,0,none⟩) n cap 0 0 Tryz.underlying146;obtain⟨i0,hi,Ij,Ii,Im⟩:=info_parts xF;have IA:∀j u,(strs l)[j]?=some u->(w.alloc (.cells #[] 9)).cell? ((⟨g,0,none⟩:Addr).add j)=some u:=(hr.move ((ay w _).block g hr.lt)).src
 have ec:(w.alloc (.cells #[] 9)).ownsRow w.heap.size 9 1 (.slice (some ⟨w.heap.size,0,none⟩) 0 0) 0 [] :=
  ⟨rfl,.inr ⟨w.heap.size,0,#[],rfl,Nat.le_refl _,heap_alloc_new _ _,Nat.le_refl _,by simp[maxLen],rfl,rfl⟩⟩
 have HL:=Hx hl;have HN:=Hx hn;clear hl hn hr;go_enter Tryz.func75,Tryz.ntmps75
 go_wp2_with (at_builtin; refine wpList_append_own _ rfl _ _ 146 rfl w.heap.size 9 i0 (.string ⟨#[]⟩) 1 16 Tryz.underlying146 hi Ij Ii Im rfl (by decide) _ _ _ rfl ec ⟨g,0,none⟩ n cap (strs l) rfl (by rw[jc,HL.out]; omega) IA (oj l) ?c3 ?c4 ?c5 ?_)
 case c3=>have:=HN.out; unfold maxLen; omega
 case c4=>have:=HN.out; omega
 case c5=>simp
 intro v' w1 jZ Il _;obtain⟨g',c',rfl,hB,hc,hr⟩:=AX jZ HN.out.1;have B1:=Hs (Below w.heap.size w w1) ((ay w _).grown Il (by simp) (λk hk=>by simp[Value.ownBlock]at hk; omega));have HB:=Hx hB;have HC:=Hx hc;have HR:=Hx hr;clear jZ Il hB hc hr IA ec;go_wp2;go_ret;exact⟨g',c',rfl,HR.out,HC.out,HB.out,B1.out⟩
def Dk.new(n:Nat):Dk:=⟨List.replicate n (bJ ⟨#[]⟩),List.replicate n (bJ ⟨#[]⟩),[],-1,false⟩
theorem Dk.new_ok{n:Nat}(h:n<=40):(Dk.new n).ok n:=⟨h,by simp[Dk.new],by simp[Dk.new],(λ_ hr=>by cases hr),(show(-1:Int)<=-1 by omega),(show(-1:Int)<=9223372036854775807 by omega)⟩
def made (w w':World):Nat->Prop:=λk=>w.heap.size<=k/\k<w'.heap.size
theorem CH(n:Nat)(w:World)(hn:1<=n/\n<=40) : Calls Tryz.prog 37 #[.int .i64 n] w λe w'=>∃D,e=.returned (.tuple #[.pointer (some ⟨D,0,none⟩),.nilIface])/\cX (made w w') w' 152 197 D n (Dk.new n)/\Below w.heap.size w w':=by
 have FULL:=Hx (λw=>uH ⟨#[]⟩ w (by decide));have HN:=Hx hn
 have q1:decide ((n:Int)<1)=false:=by rw[decide_eq_false_iff_not]; omega
 have q2:decide ((40:Int)<(n:Int))=false:=by rw[decide_eq_false_iff_not]; omega
 clear hn;go_enter Tryz.func37,Tryz.ntmps37
 go_wp2_with fail;refine(FULL.out _).mono ?_;rintro e w1 ⟨rfl,b1⟩;obtain⟨F,hF⟩:=Nm (bJ ⟨#[]⟩);rw[hF];have HF:=Hx hF;have B1:=Hx b1;clear b1 hF FULL;go_wp2_with fail;have b2:=ay w1 (.cells #[.string F] 9);refine(vB n F w1.heap.size _ HN.out (heap_alloc_new w1 _)).mono ?_;rintro e w3 ⟨K,rfl,hr,hK,b3⟩;have B3:=Hx ((B1.out.trans (b2.mono B1.out.size)).trans (b3.mono (Nat.le_trans B1.out.size b2.size)));have HK:=Hs (w.heap.size<=K) (Nat.le_trans (Nat.le_trans B1.out.size b2.size) hK);have HR:=Hx hr;clear b2 b3 B1 hr hK;go_wp2_with fail;refine(zH (List.replicate n F) n K n _ (by simp) HN.out HR.out).mono ?_;rintro e w4 ⟨N,cn,rfl,hrn,hcn,hN,b4⟩;have B4:=Hx (B3.out.trans (b4.mono B3.out.size));have HR4:=Hx (HR.out.move (b4.block K HR.out.lt));have HKN:=Hs (K≠N) (by have:=HR.out.lt; omega);have HN4:=Hs (w.heap.size<=N) (Nat.le_trans B3.out.size hN);have HRN:=Hx hrn;have HCN:=Hx hcn;clear hrn hcn hN b4 B3 HR
 have FIN:=Hs (cX (made w (w4.alloc (.cells #[.slice (some ⟨K,0,none⟩) n n,.slice (some ⟨N,0,none⟩) n cn,.slice none 0 0,.int .i64 (-1),.bool false] 152))) (w4.alloc (.cells #[.slice (some ⟨K,0,none⟩) n n,.slice (some ⟨N,0,none⟩) n cn,.slice none 0 0,.int .i64 (-1),.bool false] 152)) 152 197 w4.heap.size n (Dk.new n)) (by
  have hkl:=HR4.out.lt;have hnl:=HRN.out.lt;have h0:=B4.out.size;have b5:=ay w4 (.cells #[.slice (some ⟨K,0,none⟩) n n,.slice (some ⟨N,0,none⟩) n cn,.slice none 0 0,.int .i64 (-1),.bool false] 152);refine⟨K,N,n,cn,.slice none 0 0,⟨heap_alloc_new _ _,?_,?_,World.ownsRow_nil _ _ _ _,by omega,by omega,HKN.out,(λe=>by cases e),(λe=>by cases e),(λe=>by cases e),Nat.le_refl _,HCN.out⟩,⟨h0,by simp⟩,⟨HK.out,by simp; omega⟩,⟨HN4.out,by simp; omega⟩,(λb hb=>by cases hb)⟩
  .unfold Dk.new; rw[HF.out]; exact HR4.out.move (b5.block K hkl)
  .unfold Dk.new; rw[HF.out]; exact HRN.out.move (b5.block N hnl))
 have B5:=Hx (B4.out.trans ((ay w4 (.cells #[.slice (some ⟨K,0,none⟩) n n,.slice (some ⟨N,0,none⟩) n cn,.slice none 0 0,.int .i64 (-1),.bool false] 152)).mono B4.out.size));go_wp2;exact bodyPost_ret (v:=.tuple #[.pointer (some ⟨w4.heap.size,0,none⟩),.nilIface]) (by simp[results,Tryz.results37,go_sem]) rfl ⟨_,rfl,FIN.out,B5.out⟩
end
section
open Go.RowKit
structure Sz (d:Dk):Prop where
 kept:∀x∈d.kept,x.size=64
 now:∀x∈d.now,x.size=64
 wait:∀r∈d.wait,r.2.size=64
theorem pn{s:ByteArray}(h:s.size<=64):(bJ s).size=64:=by unfold bJ;rw[ByteArray.size_append,mJ];omega
theorem xu{l:List ByteArray}{i:Nat}{y:ByteArray}(h:∀x∈l,x.size=64)(hy:y.size=64):∀x∈l.set i y,x.size=64:=by
 intro x hx
 rcases List.mem_or_eq_of_mem_set hx with h' | rfl
 .exact h x h'
 .exact hy
theorem Sz.step{d:Dk}(h:Sz d):Sz d.step:=by have e:=Dk.step_lists d;exact⟨by rw[e.1]; exact h.kept,by rw[e.2.1]; exact h.now,by rw[e.2.2]; exact h.wait⟩
theorem Sz.write{n:Nat}{d:Dk}(h:Sz d)(p:Int)(s:ByteArray):Sz (d.write n p s):=by
 unfold Dk.write
 split
 .exact h
 .rename_i hp;have hs:=pn (s:=s) (by omega)
  split
  .have e:=Dk.step_lists d;refine⟨by show ∀x∈d.step.kept,_; rw[e.1]; exact h.kept,xu h.now hs,λr hr=>?_⟩
   rcases List.mem_append.1 hr with hr | hr
   .exact h.wait r hr
   .obtain rfl:=List.mem_singleton.1 hr;exact hs
  .exact h.step
theorem Sz.flush{d:Dk}(h:Sz d):Sz d.flush:=by
 unfold Dk.flush
 split
 .exact⟨h.now,by show ∀x∈d.step.now,_; rw[(Dk.step_lists d).2.1]; exact h.now,λr hr=>by cases hr⟩
 .exact h.step
theorem Sz.rest{d:Dk}(h:Sz d)(keep:Int):∀k,k<=d.wait.length->∀x∈d.restTo keep k,x.size=64
 | 0,_=>h.kept
 | k+1,hk=>by
  have ih:=Sz.rest h keep k (by omega);unfold Dk.restTo
  split
  .refine xu ih ?_;rw[List.getD_eq_getElem?_getD,List.getElem?_eq_getElem (by omega),Option.getD_some];exact h.wait _ (List.getElem_mem _)
  .exact ih
theorem Sz.new(n:Nat):Sz (Dk.new n):=by
 have hf:∀x∈List.replicate n (bJ ⟨#[]⟩),x.size=64:=λx hx=>by rw[List.eq_of_mem_replicate hx]; exact pn (by decide)
 exact⟨hf,hf,λr hr=>by cases hr⟩
theorem Sz.lay{n a:Nat}{d:Dk}{A B:ByteArray}(h:Sz d):Sz (gA n d a A B).1:=by
 unfold gA;dsimp only
 split
 .exact h.write _ _
 .split
  .exact(h.write _ _).flush
  .split
   .exact((h.write _ _).flush).write _ _
   .split
    .exact(((h.write _ _).flush).write _ _).flush
    .split
     .exact((((h.write _ _).flush).write _ _).flush).write _ _
     .split
      .exact(((((h.write _ _).flush).write _ _).flush).write _ _).flush
      .exact(((((h.write _ _).flush).write _ _).flush).write _ _).flush
theorem Sz.sector{n:Nat}{d:Dk}(h:Sz d)(ok:d.ok n){p:Nat}(hp:p<n):(d.now.getD p ⟨#[]⟩).size=64:=by rw[List.getD_eq_getElem?_getD,List.getElem?_eq_getElem (by rw[ok.nl]; exact hp),Option.getD_some];exact h.now _ (List.getElem_mem _)
theorem sR(a:Option Addr)(cap:Nat)(ty:TypeId)(w:World) : (Builtin.append_ #[32,32] ty #[.slice none 0 0,.slice a 0 cap]).run Tryz.prog w=.ok (.slice none 0 0) w:=by
 obtain⟨i0,hi,Ij,Ii,Im⟩:=info_parts Tryz.infoReg;simp[Builtin.append_,run_underlying Tryz.underlying32,sizeOf,typeInfo,hi,Builtin.lenOf]
 cases a<;>simp[Builtin.firstCells,Result.andThen,loadCells,loadCellsFrom]
theorem iZ(l:List (Int × Int))(a:Option Addr)(cap:Nat)(ty:TypeId)(w:World)(hl:l.length<=1000)(hr:bE w.heap.size w a l) : ∃v w',(Builtin.append_ #[32,32] ty #[.slice none 0 0,.slice a l.length cap]).run Tryz.prog w=.ok v w'/\bX w.heap.size w' v l/\Below w.heap.size w w':=by
 by_cases h0:l=[]
 .subst h0;exact⟨_,_,sR a cap ty w,⟨rfl,.inl ⟨rfl,rfl⟩⟩,Below.refl _ _⟩
 .obtain⟨b,o,rfl,hb,-⟩:=hr 0 (List.length_pos_iff.2 h0);obtain⟨i0,hi,Ij,Ii,Im⟩:=info_parts Tryz.infoReg;obtain⟨v',w',II,r1,r2,_⟩:=run_append_own (P:=Tryz.prog) w w.heap.size 32 ty 144 i0 _ 2 16 Tryz.underlying32 hi Ij Ii Im rfl (by omega) (.slice none 0 0) 0 [] (World.ownsRow_nil w _ _ _) ⟨b,o,none⟩ l.length cap (ah l) (aF l) (gQ hr) (bC l) (by unfold maxLen; omega) (by omega) (Nat.le_refl _);refine⟨v',w',II,?_,(Below.refl _ _).grown r2 (Nat.le_refl _) (λq hq=>by cases hq)⟩;simpa[bX] using r1
theorem sQ(w:World)(v:Value):(Instr.typeAssert (.iface 108 v) 43 108 true).run Tryz.prog w=.ok (.tuple #[v,.bool true]) w:=by kernel_rfl
theorem Au(f g:Int)(w:World)(hf:0<=f)(hg:0<=g) : Calls Tryz.prog 11 #[bg f,.int .i64 g] w λe w'=>e=.returned (.bool (decide (f=g)))/\Below w.heap.size w w':=by
 rcases (by omega:f=0\/f≠0) with rfl | h0
 .rw[aH]
  rcases (by omega:g=0\/g≠0) with rfl | he
  .go_enter Tryz.func11,Tryz.ntmps11
   go_wp2;go_ret;exact⟨rfl,Below.refl _ _⟩
  .have q:(g == 0)=false:=by simp[he]
   have HE:=Hx he;clear he;go_enter Tryz.func11,Tryz.ntmps11
   go_wp2;go_ret;exact⟨aA (by have:=HE.out; symm; rw[decide_eq_false_iff_not]; omega),Below.refl _ _⟩
 .rw[aK h0];have H0:=Hx h0;have hta:=λw=>sQ w (.int .i64 f);clear h0
  rcases (by omega:g<=0\/0<g) with hz | hz
  .go_enter Tryz.func11,Tryz.ntmps11
   go_wp2;go_ret;exact⟨aA (by have:=H0.out; symm; rw[decide_eq_false_iff_not]; omega),Below.refl _ _⟩
  .rcases (by omega:f=g\/f≠g) with he | he
   .subst he
    have q:(f == f)=true:=by simp
    go_enter Tryz.func11,Tryz.ntmps11
    go_wp2;go_ret;exact⟨aA (by simp),Below.refl _ _⟩
   .have q:(f == g)=false:=by simp[he]
    have HE:=Hx he;clear he;go_enter Tryz.func11,Tryz.ntmps11
    go_wp2;go_ret;exact⟨aA (by have:=HE.out; symm; rw[decide_eq_false_iff_not]; exact this),Below.refl _ _⟩
def fF(es:Array MapEntry)(cl:Nat):Prop:=(es.toList.map (·.born)).Pairwise (·<·)/\∀x∈es.toList.map (·.born),x<cl
theorem fF.push{es:Array MapEntry}{cl:Nat}(h:fF es cl)(k v:Value):fF (es.push ⟨k,v,cl⟩) (cl+1):=by
 unfold fF;rw[Array.toList_push,List.map_append];refine⟨List.pairwise_append.2 ⟨h.1,by simp,λa ha b hb=>?_⟩,λx hx=>?_⟩
 .obtain rfl:b=cl:=by simpa using hb
  exact h.2 a ha
 .rcases List.mem_append.1 hx with e | e
  .have:=h.2 x e; omega
  .obtain rfl:x=cl:=by simpa using e
   omega
theorem fF.modify{es:Array MapEntry}{cl:Nat}(h:fF es cl)(i:Nat)(k v:Value):fF (es.modify i λe=>{ e with key:=k,val:=v }) cl:=by
 have e:(es.modify i λe=>{ e with key:=k,val:=v }).toList.map (·.born)=es.toList.map (·.born):=by
  apply List.ext_getElem?;intro q;simp only[List.getElem?_map,Array.toList_modify,List.getElem?_modify];by_cases hq:i=q
  .subst hq; cases es.toList[i]?<;>simp
  .simp[hq]
 unfold fF;rw[e];exact h
theorem fF.erase{es es':Array MapEntry}{cl:Nat}(h:fF es cl)(i:Nat)(e:es'.toList=es.toList.eraseIdx i):fF es' cl:=by
 have s:(es'.toList.map (·.born)).Sublist (es.toList.map (·.born)):=by rw[e]; exact(List.eraseIdx_sublist es.toList i).map _
 exact⟨h.1.sublist s,λx hx=>h.2 x (s.subset hx)⟩
def df (w:World)(b:Nat)(l:List (Int × Value)):Prop :=
 ∃es cl,w.heap[b]?=some (.map es cl)/\es.toList.map (λe=>(e.key,e.val))=(l.map λp=>(Value.int .i64 p.1,p.2))/\fF es cl
theorem df.lt{w:World}{b:Nat}{l:List (Int × Value)}(h:df w b l):b<w.heap.size:=by obtain⟨_,_,h,_⟩:=h;exact(Gl h)
theorem df.move{w w':World}{b:Nat}{l:List (Int × Value)}(h:df w b l)(e:w'.heap[b]?=w.heap[b]?):df w' b l:=by obtain⟨es,cl,h,he⟩:=h;exact⟨es,cl,e.trans h,he⟩
theorem df.new(w:World):df (w.alloc (.map #[] 0)) w.heap.size []:=⟨#[],0,heap_alloc_new w _,rfl,List.Pairwise.nil,λ_ h=>by cases h⟩
def dG(k:Int):List (Int × Value)->Nat->Option (Nat × Value)
 | [],_=>none
 | p :: l,i=>if p.1=k then some (i,p.2) else dG k l (i+1)
def yy (l:List (Int × Value))(k:Int)(v:Value):List (Int × Value):=match dG k l 0 with | some r=>l.set r.1 (k,v) | none=>l ++ [(k,v)]
def EB (l:List (Int × Value))(k:Int):List (Int × Value):=match dG k l 0 with | some r=>l.eraseIdx r.1 | none=>l
theorem pC(k:Int):∀(l:List (Int × Value)) (i:Nat) (r:Nat × Value),dG k l i=some r->∃j,r.1=i+j/\l[j]?=some (k,r.2)
 | [],_,_,h=>by cases h
 | p :: l,i,r,h=>by
  unfold dG at h;by_cases hk:p.1=k
  .rw[if_pos hk]at h;cases h
   exact⟨0,rfl,by rw[<-hk]; rfl⟩
  .rw[if_neg hk]at h;obtain⟨j,h1,h2⟩:=pC k l (i+1) r h;exact⟨j+1,by omega,by simpa using h2⟩
theorem fx(k:Int):∀(es:List MapEntry) (l:List (Int × Value)) (i:Nat),es.map (λe=>(e.key,e.val))=l.map (λp=>(Value.int .i64 p.1,p.2))->Instr.findNow (.int .i64) (.int .i64 k) es i=some (dG k l i)
 | [],[],_,_=>rfl
 | [],_ :: _,_,h=>by simp at h
 | _ :: _,[],_,h=>by simp at h
 | e :: es,p :: l,i,h=>by
  simp only[List.map_cons,List.cons.injEq,Prod.mk.injEq]at h;obtain⟨⟨h1,h2⟩,h3⟩:=h
  have e0:Instr.sameNow (.int .i64) (.int .i64 k) e.key=some (k == p.1):=by rw[h1]; simp[Instr.sameNow]
  unfold Instr.findNow dG;rw[e0,h2];by_cases hk:p.1=k
  .rw[if_pos hk,hk]; simp
  .rw[if_neg hk]
   have:(k == p.1)=false:=by simpa using Ne.symm hk
   rw[this];exact fx k es l (i+1) h3
section
variable {P:Program} {w:World} {T kt et:TypeId} (hT:P.underlying T=some (.map kt et)) (hk:P.underlying kt=some (.int .i64)) {b:Nat} {l:List (Int × Value)} (h:df w b l) (k:Int)
include hT hk h
theorem oH{z:Value}(hz:(zeroValue et).run P w=.ok z w) : (Instr.lookup T (.map (some b)) (.int .i64 k) true).run P w=.ok (match dG k l 0 with | some r=>.tuple #[r.2,.bool true] | none=>.tuple #[z,.bool false]) w:=by
 obtain⟨es,cl,hb,he,Nl⟩:=h;have hf:=fx k es.toList l 0 he
 cases Nk:dG k l 0 with
 | none =>
  rw[Nk]at hf;simp[Instr.lookup,run_underlying hT,MapKept.run_getObj_map hb,MapKept.run_checkKey (k:=.int .i64 k) hk rfl,MapKept.run_findKey hk hf,hz,Result.andThen]
 | some r =>
  obtain⟨i,v⟩:=r;rw[Nk]at hf;simp[Instr.lookup,run_underlying hT,MapKept.run_getObj_map hb,MapKept.run_checkKey (k:=.int .i64 k) hk rfl,MapKept.run_findKey hk hf,Result.andThen]
theorem gg(v:Value):∃o,(Instr.mapUpdate T (.map (some b)) (.int .i64 k) v).run P w=.ok () (dK w b o)/\df (dK w b o) b (yy l k v):=by
 obtain⟨es,cl,hb,he,Nl⟩:=h;have hf:=fx k es.toList l 0 he;unfold yy
 cases Nk:dG k l 0 with
 | none =>
  rw[Nk]at hf;refine⟨.map (es.push ⟨.int .i64 k,v,cl⟩) (cl+1),?_,es.push ⟨.int .i64 k,v,cl⟩,cl+1,dV hb,?_,Nl.push _ _⟩
  .simp[Instr.mapUpdate,run_underlying hT,MapKept.run_getObj_map hb,MapKept.run_checkKey (k:=.int .i64 k) hk rfl,MapKept.run_findKey hk hf,MapKept.run_setObj_map _ hb,Result.andThen,dK]
  .simp[he]
 | some r =>
  obtain⟨i,u⟩:=r;rw[Nk]at hf;obtain⟨j,hj,hl⟩:=pC k l 0 _ Nk
  have hj:i=j:=by simpa using hj
  subst hj;have hm:=congrArg (λx=>x[i]?) he;simp only[List.getElem?_map,hl,Option.map_some]at hm
  cases hei:es[i]? with
  | none=>simp[hei]at hm
  | some e =>
   have hke:e.key=.int .i64 k:=by simp[hei]at hm; exact hm.1
   refine⟨.map (es.modify i λe=>{ e with key:=.int .i64 k,val:=v }) cl,?_,_,cl,dV hb,?_,Nl.modify _ _ _⟩
   .simp[Instr.mapUpdate,run_underlying hT,MapKept.run_getObj_map hb,MapKept.run_checkKey (k:=.int .i64 k) hk rfl,MapKept.run_findKey hk hf,hei,hke,MapKept.run_keyThatStays (d:=.int .i64) (k:=.int .i64 k) rfl,MapKept.run_setObj_map _ hb,Result.andThen,dK]
   .apply List.ext_getElem?;intro q;have hq:=congrArg (λx=>x[q]?) he;simp only[List.getElem?_map,Array.getElem?_toList]at hq;simp only[List.getElem?_map,Array.toList_modify,List.getElem?_modify,Array.getElem?_toList,List.getElem?_set];by_cases hqi:i=q
    .subst hqi;have lB:i<l.length:=(List.getElem?_eq_some_iff.1 hl).1;simp[hei,lB]
    .simp[hqi,hq]
theorem oJ{ty:TypeId}:∃o,(Builtin.delete_ #[T,kt] ty #[.map (some b),.int .i64 k]).run P w=.ok (.tuple #[]) (dK w b o)/\df (dK w b o) b (EB l k):=by
 obtain⟨es,cl,hb,he,Nl⟩:=h;have hf:=fx k es.toList l 0 he;unfold EB
 cases Nk:dG k l 0 with
 | none =>
  rw[Nk]at hf;refine⟨.map es cl,?_,es,cl,dV hb,he,Nl⟩;simp[Builtin.delete_,run_underlying hT,MapKept.run_getObj_map hb,MapKept.run_checkKey (k:=.int .i64 k) hk rfl,MapKept.run_findKey hk hf,MapKept.run_setObj_map _ hb,Result.andThen,dK]
 | some r =>
  obtain⟨i,u⟩:=r;rw[Nk]at hf
  have e1:(es.eraseIdxIfInBounds i).toList=es.toList.eraseIdx i:=by
   unfold Array.eraseIdxIfInBounds
   split
   .simp
   .rename_i hn;rw[List.eraseIdx_of_length_le (by simpa using hn)]
  refine⟨.map (es.eraseIdxIfInBounds i) cl,?_,_,cl,dV hb,?_,Nl.erase i e1⟩
  .simp[Builtin.delete_,run_underlying hT,MapKept.run_getObj_map hb,MapKept.run_checkKey (k:=.int .i64 k) hk rfl,MapKept.run_findKey hk hf,MapKept.run_setObj_map _ hb,Result.andThen,dK]
  .have em:∀ {α β:Type} (f:α->β) (x:List α) (j:Nat),(x.eraseIdx j).map f=(x.map f).eraseIdx j:=λf x=>by
    induction x with
    | nil=>intro j; rfl
    | cons a x ih =>
     intro j
     cases j with
     | zero=>rfl
     | succ j=>simp[ih]
   rw[e1,em,he,<-em]
end
