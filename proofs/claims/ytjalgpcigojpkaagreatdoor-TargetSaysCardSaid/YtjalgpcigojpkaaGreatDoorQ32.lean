import Derived.Test.YtjalgpcigojpkaaGreatDoorQ31
set_option maxRecDepth 99999
set_option maxHeartbeats 99999999
namespace Go.Proofs.YtjalgpcigojpkaaGreatDoor
section
open List (getElem_toArray getElem_cons_zero getElem_cons_succ setIfInBounds_toArray set_cons_zero set_cons_succ)
open Go.RowKit Go.Sort
theorem tI{P:Program}{ops:Array Oper}{o:Oper}{a:Act}{w:World}{K:Act->World->Prop}{Q:Exit->Act->World->Prop}{E:Prop}(I9:o.guard=none)(t:TypeId)(m k x:Operand)(Jt:o.op=.mapUpdate t m k x)(w':World)(II:(Instr.mapUpdate t (a.eval m) (a.eval k) (a.eval x)).run P w=.ok () w')(hK:K (a.put o.dst undef) w') : if Region.wanted o (yielded ops a.tmps)=true then Oper.wp P o a w K Q else E:=by
 have hw:Region.wanted o (yielded ops a.tmps)=true:=by simp[Region.wanted,I9]
 rw[if_pos hw]
 have e:(execOp a.eval o).run P w=.ok .skip w':=by simp[execOp,Jt,II,Result.andThen]
 unfold Oper.wp;rw[e];exact hK
theorem rK(w:World)(b:Nat)(es:Array MapEntry)(cl:Nat)(hb:w.heap[b]?=some (.map es cl)):∀ty,(Builtin.len_ #[103] ty #[.map (some b)]).run Tryz.prog w=.ok (.int .i64 (es.size:Int)) w:=λty=>by simp[Builtin.len_,run_underlying Tryz.underlying103,MapKept.run_getObj_map hb];rfl
section
variable {n D K:Nat} {k:Kp} {w wx w':World} {X:Nat->Prop}
theorem KI.wide(h:KI n w X D K k wx)(kp:ac X wx w')(hX:∀b,X b->w.heap.size<=b):KI n w (λc=>X c\/(wx.heap.size<=c/\c<w'.heap.size)) D K k w':=by
 obtain⟨S,a,cap,kr,lo,kb,bl,hx,ax⟩:=h
 have hK:=(Gl kr.blk)
 refine⟨S,a,cap,⟨(kp.block K (λe=>(hx K e).2.2 rfl) hK).trans kr.blk,kr.dk.keeps kp (λb e q=>(hx b q).2.1 e),kr.nk,λb e=>Nat.lt_of_lt_of_le (kr.lt b e) kp.size,kr.str.keeps kp ax,kr.ap⟩,lo,kb,bl.trans (kp.below bl.size hX),λc hc=>?_,λb q e hn hXX=>?_⟩
 .rcases hc with hc | hc
  .exact⟨Nat.lt_of_lt_of_le (hx c hc).1 kp.size,(hx c hc).2⟩
  .exact⟨hc.2,λe=>by have:=kr.lt _ e; omega,by omega⟩
 .subst e
  rcases hXX with hXX | hXX
  .exact ax b q rfl hn hXX
  .have:=kr.str.blt hn; omega
end
section
variable {X X':Nat->Prop} {w0 w w':World} {T:Nat} {m:Tm} {t:Tg}
theorem zj(h:fA X w0 w T m t){b o:Nat}(e:m.fa=some ⟨b,o,none⟩):∃cur,w.heap[b]?=some (.cells cur 124 (0,0)):=by
 obtain⟨-,h2 | ⟨g,cap,cur,e1,_,e3,_⟩⟩:=h.fly
 .rw[e]at h2; cases h2.1
 .rw[e]at e1;simp only[Value.slice.injEq,Option.some.injEq,Addr.mk.injEq]at e1;obtain⟨⟨rfl,_,_⟩,_⟩:=e1;exact⟨cur,e3⟩
theorem fA.reMaps(h:fA X w0 w T m t)(kp:ac (λb=>b=m.W\/b=m.N\/b∈m.hm) w w')(hX:∀b,X b->X' b)(hm':List Nat)(wait':List Wt)(done':List Int)
  (hw:df w' m.W (bY wait' hm')) (hl:wait'.length=hm'.length) (hh:∀i (h:i<hm'.length) (h2:i<wait'.length),X' hm'[i]/\hm'[i]≠m.W/\hm'[i]≠m.N/\df w' hm'[i] (eh wait'[i].hv)) (ap:hm'.Pairwise (·≠·)) (hd:df w' m.N (eh done')) :
  fA X' w0 w' T { m with hm:=hm' } { t with wait:=wait',done:=done' }:=by
 have nM:∀ {b cs ty fr},w.heap[b]?=some (.cells cs ty fr)->¬ (b=m.W\/b=m.N\/b∈m.hm):=fun {b cs ty fr} hc e=>by
  rcases e with rfl | rfl | e
  .obtain⟨es,cl,h1,_⟩:=h.wait;rw[hc]at h1; cases h1
  .obtain⟨es,cl,h1,_⟩:=h.done;rw[hc]at h1; cases h1
  .obtain⟨i,hi,rfl⟩:=List.mem_iff_getElem.1 e;obtain⟨es,cl,h1,_⟩:=(h.have' i hi (by rw[h.wl]; exact hi)).2.2.2;rw[hc]at h1; cases h1
 have hT:=(Gl h.blk)
 refine⟨(kp.block T (nM h.blk) hT).trans h.blk,h.ok,hX _ h.xt,hX _ h.xw,hX _ h.xn,h.wn,λq=>?_,hw,hl,hh,ap,?_,λb o e=>hX _ (h.xf b o e),hd⟩
 .refine⟨λi hi=>?_,(h.box q).len,(h.box q).cap,(h.box q).eq⟩;obtain⟨c,o,e,Jq,lB,hc⟩:=(h.box q).ints i hi
  have Iu:∃cs ty fr,w.heap[c]?=some (.cells cs ty fr):=by
   unfold World.cell? at hc
   cases hh:w.heap[c]? with
   | none=>rw[hh]at hc; simp at hc
   | some ob =>
    rw[hh]at hc
    cases ob with
    | cells cs ty fr=>exact⟨cs,ty,fr,rfl⟩
    | _=>simp at hc
  obtain⟨cs,ty,fr,Iu⟩:=Iu;exact⟨c,o,e,⟨hX _ Jq.1,Jq.2⟩,Nat.lt_of_lt_of_le lB kp.size,(kp.cell (nM Iu) lB).trans hc⟩
 .refine aV h.fly (λc e=>?_);obtain⟨-,cur,hc⟩:=dW h e;exact kp.block c (nM hc) (Gl hc)
theorem nW:∀(l:List Wt) (hm:List Nat) (x:Wt) (b:Nat),l.length=hm.length->bY (l ++ [x]) (hm ++ [b])=bY l hm ++ [(x.tag,.agg #[.int .i64 x.who,.int .i64 x.num,.map (some b)])]
 | [],[],_,_,_=>rfl
 | [],_ :: _,_,_,h=>by simp at h
 | _ :: _,[],_,_,h=>by simp at h
 | y :: l,c :: hm,x,b,h=>by have:=nW l hm x b (by simpa using h);simp only[List.cons_append,bY];rw[this]
theorem pD(k:Int):∀(l:List (Int × Value)) (i:Nat),(∀p∈l,p.1≠k)->dG k l i=none
 | [],_,_=>rfl
 | p :: l,i,h=>by unfold dG;rw[if_neg (h p (by simp))];exact pD k l (i+1) (λq hq=>h q (by simp[hq]))
theorem nX:∀(l:List Wt) (hm:List Nat),∀p∈bY l hm,∃x∈l,x.tag=p.1
 | [],_,p,h=>by simp[bY]at h
 | _ :: _,[],p,h=>by simp[bY]at h
 | y :: l,c :: hm,p,h=>by
  simp only[bY,List.mem_cons]at h
  rcases h with rfl | h
  .exact⟨y,by simp,rfl⟩
  .obtain⟨x,hx,e⟩:=nX l hm p h;exact⟨x,by simp[hx],e⟩
theorem ac.setO'{S:Nat->Prop}{a w:World}{b:Nat}(h:ac S a w)(hb:S b)(o:Obj):ac S a (dK w b o) :=
 h.trans ⟨rfl,rfl,rfl,by rw[me]; exact Nat.le_refl _,λc hc _=>nH (λe=>hc (e▸hb))⟩
theorem fA.addWait(h:fA X w0 w T m t)(lt:∀b,X b->b<w.heap.size)(x:Wt)(hx:x.hv=[])(o:Obj)(hi:df (dK (w.drew.alloc (.map #[] 0)) m.W o) m.W (bY t.wait m.hm ++ [(x.tag,.agg #[.int .i64 x.who,.int .i64 x.num,.map (some w.heap.size)])])) : fA (λc=>X c\/(w.heap.size<=c/\c<(dK (w.drew.alloc (.map #[] 0)) m.W o).heap.size)) w0 (dK (w.drew.alloc (.map #[] 0)) m.W o) T { m with hm:=m.hm ++ [w.heap.size] } { t with wait:=t.wait ++ [x] }/\ac (·=m.W) w (dK (w.drew.alloc (.map #[] 0)) m.W o):=by
 have hz:(dK (w.drew.alloc (.map #[] 0)) m.W o).heap.size=w.heap.size+1:=by rw[me]; simp
 have kp:ac (·=m.W) w (dK (w.drew.alloc (.map #[] 0)) m.W o):=((ac.refl (·=m.W) w).drew.alloc _).setO' rfl o;have hW:m.W<w.heap.size:=h.wait.lt;have hN:m.N<w.heap.size:=h.done.lt
 have hH:∀b∈m.hm,b<w.heap.size/\X b:=λb hb=>by obtain⟨i,hi,rfl⟩:=List.mem_iff_getElem.1 hb;have q:=h.have' i hi (by rw[h.wl]; exact hi);exact⟨lt _ q.1,q.1⟩
 refine⟨h.reMaps (kp.mono (λb e=>.inl e)) (λb e=>.inl e) _ _ t.done (by rw[nW _ _ _ _ h.wl]; exact hi) (by simp[h.wl]) (λi h1 h2=>?_) ?_ (h.done.move (kp.block _ (Ne.symm h.wn) hN)),kp⟩
 .by_cases L6:i<m.hm.length
  .obtain⟨q1,q2,q3,q4⟩:=h.have' i L6 (by rw[h.wl]; exact L6);rw[List.getElem_append_left L6,List.getElem_append_left (by rw[h.wl]; exact L6)];exact⟨.inl q1,q2,q3,q4.move (kp.block _ q2 (lt _ q1))⟩
  .have:i=m.hm.length:=by simp at h1; omega
   subst this;rw[List.getElem_concat_length rfl,List.getElem_append_right (by rw[h.wl]; exact Nat.le_refl _)];simp only[h.wl,Nat.sub_self,List.getElem_cons_zero,hx];refine⟨.inr ⟨Nat.le_refl _,by omega⟩,by omega,by omega,?_⟩;exact(df.new w.drew).move (nH (by show w.heap.size≠m.W; omega))
 .rw[List.pairwise_append];refine⟨h.apart,List.pairwise_singleton _ _,λa ha b hb=>?_⟩;rw[List.mem_singleton.1 hb];have:=(hH a ha).1;omega
end
theorem bR.push{X:Nat->Prop}{w0 w w1 w2:World}{n D T:Nat}{m:Tm}{t:Tg}{Y:Nat->Prop}(ki:KI n w0 X D m.K t.k w)(tb:fA X w0 w T m t)(lo:∀b,X b->w0.heap.size<=b)(hy:∀b,Y b->X b/\¬ m.own T b)(b1:Below w.heap.size w w1)(g cap:Nat)(l:List Ms)(ho:dC w0.heap.size w2 (.slice (some ⟨g,0,none⟩) l.length cap) l)(gr:w1.grownBy w2 (Value.slice m.fa t.fly.length m.fc).ownBlock)(Iw:(Value.slice m.fa t.fly.length m.fc).ownBlock=some g\/g=w1.heap.size)(lB:g<w2.heap.size) : bR w0 n D T { t with fly:=l } Y (w2.setCell ⟨T,86,none⟩ (.slice (some ⟨g,0,none⟩) l.length cap))/\Same Y w (w2.setCell ⟨T,86,none⟩ (.slice (some ⟨g,0,none⟩) l.length cap)):=by
 have hob:∀b,(Value.slice m.fa t.fly.length m.fc).ownBlock=some b->∃o,m.fa=some ⟨b,o,none⟩:=λb e=>by
  obtain⟨-,h2 | ⟨g',cap',cur,e1,_⟩⟩:=tb.fly
  .rw[h2.1]at e; cases e
  .rw[e1]at e
   have:g'=b:=by simpa[Value.ownBlock] using e
   subst this;simp only[Value.slice.injEq]at e1;exact⟨0,e1.1⟩
 have kp0:ac (λb=>∃o,m.fa=some ⟨b,o,none⟩) w w2:=(ac.of_below b1).trans ⟨gr.os,gr.tape,gr.output,gr.size,λb hb hl=>gr.block b hl (λe=>hb (hob b e.symm))⟩;have kX:ac X w w2:=kp0.mono (λb ⟨o,e⟩=>tb.xf b o e)
 have hgT:g≠T:=by
  rcases Iw with e | e
  .obtain⟨o,e⟩:=hob g e;obtain⟨cur,hc⟩:=zj tb e;intro q;subst q;rw[tb.blk]at hc;have e7:(106:Nat)=124:=congrArg (λo:Option Obj=>match o with | some (.cells _ ty _)=>ty | _=>0) hc;exact absurd e7 (by decide)
  .have:=(Gl tb.blk)
   have:=b1.size;omega
 have gX:∀c,c=g->X c\/(w.heap.size<=c/\c<w2.heap.size):=λc e=>by
  subst e
  rcases Iw with e | e
  .obtain⟨o,e⟩:=hob _ e;exact .inl (tb.xf _ o e)
  .exact .inr ⟨by have:=b1.size; omega,lB⟩
 have tb2:=tb.reFly (X':=λc=>X c\/(w.heap.size<=c/\c<w2.heap.size)) kp0 (λc e=>.inl e) (some ⟨g,0,none⟩) cap l ho (λb o e=>by
  cases e
  refine⟨gX _ rfl,hgT,?_⟩
  rcases Iw with e | e
  .exact .inr (hob _ e)
  .exact .inl (λhX=>by have:=ki.lt _ hX; have:=b1.size; omega))
 have k1:=ki.wide kX lo
 have lo1:∀c,(X c\/(w.heap.size<=c/\c<w2.heap.size))->w0.heap.size<=c:=λc e=>by
  rcases e with e | e
  .exact lo c e
  .exact Nat.le_trans ki.below.size e.1
 have kpX:∀ {S:Nat->Prop},S T->ac S w2 (w2.setCell ⟨T,86,none⟩ (.slice (some ⟨g,0,none⟩) l.length cap)):=fun {S} hS=>(ac.refl S w2).setCell (p:=⟨T,86,none⟩) hS _;have Of:(λc=>X c\/(w.heap.size<=c/\c<w2.heap.size)) T:=.inl tb.xt
 refine⟨⟨_,{ m with fa:=some ⟨g,0,none⟩,fc:=cap },k1.set (kpX Of) lo1,tb2,lo1,λc e=>⟨.inl (hy c e).1,λho=>?_⟩⟩,
  λc hc=>((kpX (S:=(·=T)) rfl).block c (λe=>(hy c hc).2 (.inl e)) (Nat.lt_of_lt_of_le (ki.lt c (hy c hc).1) kX.size)).trans (kp0.block c (λ⟨o,e⟩=>(hy c hc).2 (.inr (.inr (.inr (.inr (.inl ⟨o,e⟩)))))) (ki.lt c (hy c hc).1))⟩
 rcases ho with ho | ho | ho | ho | ⟨o,ho⟩ | ho
 .exact(hy c e).2 (.inl ho)
 .exact(hy c e).2 (.inr (.inl ho))
 .exact(hy c e).2 (.inr (.inr (.inl ho)))
 .exact(hy c e).2 (.inr (.inr (.inr (.inl ho))))
 .cases ho
  rcases Iw with e' | e'
  .obtain⟨o',e'⟩:=hob _ e';exact(hy g e).2 (.inr (.inr (.inr (.inr (.inl ⟨o',e'⟩)))))
  .have:=ki.lt _ (hy _ e).1;have:=b1.size;omega
 .exact(hy c e).2 (.inr (.inr (.inr (.inr (.inr ho)))))
structure WC (T K A:Nat) (NU TA:Int) (c:bG) (w:World):Prop where
 c0:w.cell? ⟨T,0,none⟩=some (.pointer (some ⟨K,0,none⟩))
 c3:w.cell? ⟨T,83,none⟩=some (.int .i64 NU)
 c4:w.cell? ⟨T,84,none⟩=some (.int .i64 TA)
 b1:w.cell? ⟨A,1,none⟩=some (.int .i64 c.who)
 b5:w.cell? ⟨A,5,none⟩=some (.int .i64 c.at')
 b7:w.cell? ⟨A,7,none⟩=some (.string c.data)
theorem WC.blocks{T K A:Nat}{NU TA:Int}{c:bG}{w w':World}(h:WC T K A NU TA c w)(h1:w'.heap[T]?=w.heap[T]?)(h2:w'.heap[A]?=w.heap[A]?):WC T K A NU TA c w' :=
 ⟨(World.cell?_of_block (a:=⟨T,0,none⟩) h1).trans h.c0,(World.cell?_of_block (a:=⟨T,83,none⟩) h1).trans h.c3,(World.cell?_of_block (a:=⟨T,84,none⟩) h1).trans h.c4,
  (World.cell?_of_block (a:=⟨A,1,none⟩) h2).trans h.b1,(World.cell?_of_block (a:=⟨A,5,none⟩) h2).trans h.b5,(World.cell?_of_block (a:=⟨A,7,none⟩) h2).trans h.b7⟩
theorem WC.set86{T K A:Nat}{NU TA:Int}{c:bG}{w:World}(h:WC T K A NU TA c w)(v:Value):WC T K A NU TA c (w.setCell ⟨T,86,none⟩ v):=by
 have e:∀b i,(b≠T\/i≠86)->(w.setCell ⟨T,86,none⟩ v).cell? ⟨b,i,none⟩=w.cell? ⟨b,i,none⟩:=λb i Ik=>by rw[World.cell?_setCell_other _ _ _ _ (by intro e; simp only[Addr.mk.injEq]at e; omega)]
 exact⟨(e _ _ (.inr (by decide))).trans h.c0,(e _ _ (.inr (by decide))).trans h.c3,(e _ _ (.inr (by decide))).trans h.c4,(e _ _ (.inr (by decide))).trans h.b1,(e _ _ (.inr (by decide))).trans h.b5,(e _ _ (.inr (by decide))).trans h.b7⟩
def Tg.w3(t:Tg)(c:bG)(k:Nat):Tg:={ t with num:=t.num+1,tag:=t.tag+1,fly:=t.fly ++ [t.msg c 0,t.msg c 1,t.msg c 2].take k }
section
variable (w0 w:World) (n D T:Nat) (t:Tg) (Y:Nat->Prop)
structure Ho (t:Tg):Prop where
 n0:0<=t.num/\t.num<1000000000000000
 t0:0<=t.tag/\t.tag<1000000000000000
 fl:t.fly.length<=1000
 wt:∀x∈t.wait,x.tag<=t.tag
theorem vc(c:bG)(h:bR w0 n D T t Y w)(hw:Ho t) : Calls Tryz.prog 50 #[.pointer (some ⟨T,0,none⟩),eX c] w λe w'=>e=.returned (.tuple #[.int .i64 (t.write c).2.1,bg (t.write c).2.2])/\bR w0 n D T (t.write c).1 Y w'/\Same Y w w':=by
 have HW:=Hx hw;have HH:=Hx h;obtain⟨w1,pX⟩:=Nn (w.alloc (.cells #[.int .i64 c.op,.int .i64 c.who,.int .i64 c.key,.int .i64 c.new,.int .i64 c.typ,.int .i64 c.at',.bool c.stays,.string c.data,.string c.want] 39));have B1:=Hs (Below w.heap.size w w1) (pX▸ay w _);have R1:=Hs (w1.heap[w.heap.size]?=some (.cells #[.int .i64 c.op,.int .i64 c.who,.int .i64 c.key,.int .i64 c.new,.int .i64 c.typ,.int .i64 c.at',.bool c.stays,.string c.data,.string c.want] 39 (0,0))) (pX▸heap_alloc_new w _)
 obtain⟨Z,hZ⟩:∃Z:Nat->Prop,Z=λc=>Y c\/(w.heap.size<=c/\c<w1.heap.size):=⟨_,rfl⟩
 have ZY:=Hs (∀b,Y b->Z b) (λb hb=>hZ▸Or.inl hb);have ZA:=Hs (Z w.heap.size) (hZ▸Or.inr ⟨Nat.le_refl _,(Gl R1.out)⟩);have SY1:=Hs (Same Y w w1) (λb hb=>B1.out.block b (h.lt_y b hb));have hm1:bR w0 n D T t Z w1:=hZ▸h.more B1.out;clear hZ h;obtain⟨X,m,ki,tb,lo,hy⟩:=hm1;have K1:=Hx ki;have T1:=Hx tb;have LO:=Hx lo;have HY:=Hx hy
 have hT:=(Gl T1.out.blk)
 obtain⟨⟨y0,-,-,-,-,y3,y4,y5,y6,-⟩,-,-,-,-,-,z3,z4,-⟩:=aG T1.out.blk T1.out.ok;obtain⟨es,cl,hWm,N7,-⟩:=T1.out.wait
 have hsz:es.size=t.wait.length:=by
  have:=congrArg List.length N7
  have e2:(bY t.wait m.hm).length=t.wait.length:=by
   have:∀(l:List Wt) (hm:List Nat),l.length=hm.length->(bY l hm).length=l.length:=by
    intro l
    induction l with
    | nil=>intro hm _; cases hm<;>rfl
    | cons x l ih =>
     intro hm h
     cases hm with
     | nil=>simp at h
     | cons y hm=>simp[bY,ih hm (by simpa using h)]
   exact this _ _ T1.out.wl
  simpa[e2] using this
 have hlm:=rK w1 m.W es cl hWm;rw[hsz]at hlm;clear ki tb lo hy N7;have WR:=Hs (t.write c=if t.wait.length=6\/40<t.fly.length+3 then(t,0,6) else({ t with num:=t.num+1,tag:=t.tag+1,fly:=t.fly ++ [t.msg c 0,t.msg c 1,t.msg c 2],wait:=t.wait ++ [⟨t.tag+1,c.who,t.num+1,[]⟩] },t.tag+1,0)) rfl;obtain⟨r,hr⟩:=Nm (t.write c);rw[hr]at WR ⊢;clear hr;have hfl:=hw.fl;by_cases h6:t.wait.length=6
 .have E:=Hx (WR.out.trans (if_pos (.inl h6)));rw[h6]at hlm;clear hw h6 WR hsz;go_enter Tryz.func50,Tryz.ntmps50
  go_upto_region 1 with fail;rw[<-pX];clear pX;go_wp2;rw[E.out];exact bodyPost_ret (v:=.tuple #[.int .i64 0,.iface 108 (.int .i64 6)]) (by simp[results,Tryz.results50,go_sem]) rfl ⟨rfl,HH.out.over B1.out,SY1.out⟩
 have q1:((t.wait.length:Int) == 6)=false:=by simp; omega
 have q3:¬ (t.wait.length:Int)=6:=by omega
 have q4:decide ((t.wait.length:Int)=6)=false:=by simp; omega
 by_cases h4:40<t.fly.length+3
 .have E:=Hx (WR.out.trans (if_pos (.inr h4)))
  have q2:decide ((40:Int)<(t.fly.length:Int)+3)=true:=by simp; omega
  clear hw h6 WR h4;go_enter Tryz.func50,Tryz.ntmps50
  go_upto_region 1 with fail;rw[<-pX];clear pX;go_wp2;rw[E.out];exact bodyPost_ret (v:=.tuple #[.int .i64 0,.iface 108 (.int .i64 6)]) (by simp[results,Tryz.results50,go_sem]) rfl ⟨rfl,HH.out.over B1.out,SY1.out⟩
 have E:=Hx (WR.out.trans (if_neg (by omega)));rw[E.out]
 have q2:decide ((40:Int)<(t.fly.length:Int)+3)=false:=by simp; omega
 have HF:=Hx (show t.fly.length<=37 by omega);clear hw h6 WR h4 HH;obtain⟨NU,hNU⟩:=Nm (t.num+1);obtain⟨TA,hTA⟩:=Nm (t.tag+1);have wn:IntKind.i64.wrap (t.num+1)=NU:=hNU▸IntWalk.i64_in _ (by have:=HW.out.n0; omega);have wt:IntKind.i64.wrap (t.tag+1)=TA:=hTA▸IntWalk.i64_in _ (by have:=HW.out.t0; omega);have HNU:=Hx hNU;have HTA:=Hx hTA;rw[hNU,hTA];obtain⟨w2,IQ⟩:=Nn ((w1.setCell ⟨T,83,none⟩ (.int .i64 NU)).setCell ⟨T,84,none⟩ (.int .i64 TA))
 have P2:=Hs (bR w0 n D T (t.w3 c 0) Z w2/\Same Z w1 w2) (by
  have e1:=iz T1.out.blk T1.out.ok 4 (.int .i64 NU) (m':=m) (t':={ t with num:=NU }) rfl rfl rfl;have e2:=iz e1 T1.out.ok 5 (.int .i64 TA) (m':=m) (t':={ t with num:=NU,tag:=TA }) rfl rfl rfl;have kp:ac (·=T) w1 w2:=IQ▸((ac.refl (·=T) w1).setCell (p:=⟨T,83,none⟩) rfl _).setCell (p:=⟨T,84,none⟩) rfl _
  have e3:t.w3 c 0={ t with num:=NU,tag:=TA }:=by unfold Tg.w3; rw[hNU,hTA,List.take_zero,List.append_nil]
  rw[e3]
  exact⟨⟨X,m,K1.out.set (kp.mono (λb e=>e▸T1.out.xt)) LO.out,T1.out.turn kp (IQ▸e2) T1.out.ok rfl rfl rfl rfl,LO.out,HY.out⟩,λb hb=>kp.block b (λe=>(HY.out b hb).2 (.inl e)) (K1.out.lt b (HY.out b hb).1)⟩)
 clear hNU hTA;have i9:=Tryz.infoMsg;obtain⟨i0,hi,Ij,Ii,Im⟩:=info_parts i9;clear i9;have NM:=@run_makeMap Tryz.prog;have LOW:=Hs (w0.heap.size<=w1.heap.size) K1.out.below.size;go_enter Tryz.func50,Tryz.ntmps50
 go_upto_region 1 with fail;rw[<-pX];clear pX;go_upto_region 5 with fail;rw[<-IQ];clear IQ y0 y3 y4 y5 y6 z3 z4 hT hlm hWm hsz q1 q2 q3 q4 wn wt K1 T1 LO HY;go_wp2;go_loopw [6,37] (λu i wr=>∃k:Nat,k<=3/\i=.int .i64 k/\bR w0 n D T (t.w3 c k) Z wr/\Same Z w1 wr) (λ_ i _=>3 - (intOf i).toNat)
 case atStart=>exact⟨0,by omega,rfl,P2.out.1,P2.out.2⟩
 case round =>
 obtain⟨k,hk,rfl,hR,hS⟩:=hrel;have HS:=Hx hS;have HR:=Hx hR;obtain⟨X,m,ki,tb,lo,hy⟩:=hR
 have hT:=(Gl tb.blk)
 have hA:w.heap.size<wr.heap.size:=by have q:=(hS _ ZA.out).trans R1.out;exact(Gl q)
 have WC0:=Hs (WC T m.K w.heap.size NU TA c wr) (by
  obtain⟨⟨y0,-,-,-,-,y3,y4,-⟩,-⟩:=aG tb.blk tb.ok;have q:=(hS _ ZA.out).trans R1.out
  refine⟨y0,y3.trans (by rw[<-HNU.out]; rfl),y4.trans (by rw[<-HTA.out]; rfl),?_,?_,?_⟩<;>simp[World.cell?,q])
 have WCB0:=Hx (λw' (b:Below wr.heap.size wr w')=>WC0.out.blocks (b.block T hT) (b.block _ hA));have EPO:=Hx (λw' (b:Below wr.heap.size wr w')=>gZ n w0 w' X D m.K (t.w3 c k).k (ki.over b));obtain⟨EP,hEP⟩:=Nm ((t.w3 c k).k.ep);rw[hEP]at EPO;have HEP:=Hs (t.k.ep=EP) hEP;have LO1:=Hs (w0.heap.size<=wr.heap.size) ki.below.size;clear hEP hS LOW P2;by_cases lB:k<3
 .have WCB:=Hx WCB0.out;obtain⟨L,hL⟩:=Nm ((t.w3 c k).fly.length);obtain⟨xs,hxs⟩:=Nm (cq (t.w3 c k).fly)
  have LB:=Hs (L<=40) (by
   rw[<-hL]; unfold Tg.w3;simp only[List.length_append,List.length_take];have:=HF.out;simp
   omega)
  have hLB:=LB.out;have TC:=Hx (λw' (b:Below wr.heap.size wr w')=>(b.cell (p:=⟨T,86,none⟩) hT).trans (hL▸(aG tb.blk tb.ok).1.2.2.2.2.2.2.2.2.1:wr.cell? ⟨T,86,none⟩=some (.slice m.fa L m.fc)))
  have OMB:=Hs (∀w',Below wr.heap.size wr w'->w'.ownsRow w0.heap.size 124 6 (.slice m.fa L m.fc) L xs) (λw' b=>by
   have q:=aV tb.fly (λb' e=>b.block b' (ki.lt b' (dW tb e).1));rw[hL,hxs]at q
   exact q)
  have NOT:=Hs ((Value.slice m.fa L m.fc).ownBlock≠some T/\(Value.slice m.fa L m.fc).ownBlock≠some w.heap.size) (by
   rw[<-hL];refine⟨λe=>?_,λe=>?_⟩
   .obtain⟨-,cur,hc⟩:=dW tb e;rw[tb.blk]at hc;have e7:(106:Nat)=124:=congrArg (λo:Option Obj=>match o with | some (.cells _ ty _)=>ty | _=>0) hc;exact absurd e7 (by decide)
   .obtain⟨-,cur,hc⟩:=dW tb e;rw[(HS.out _ ZA.out).trans R1.out]at hc;have e7:(39:Nat)=124:=congrArg (λo:Option Obj=>match o with | some (.cells _ ty _)=>ty | _=>0) hc
    exact absurd e7 (by decide))
  have BLK:=Hs (∀w' w'',Below wr.heap.size wr w'->w'.grownBy w'' (Value.slice m.fa L m.fc).ownBlock->w''.heap[T]?=wr.heap[T]?/\w''.heap[w.heap.size]?=wr.heap[w.heap.size]?) (λw' w'' b gr =>
   ⟨(gr.block T (Nat.lt_of_lt_of_le hT b.size) (Ne.symm NOT.out.1)).trans (b.block T hT),(gr.block _ (Nat.lt_of_lt_of_le hA b.size) (Ne.symm NOT.out.2)).trans (b.block _ hA)⟩)
  have WCG:=Hx (λw' w'' (b:Below wr.heap.size wr w') (gr:w'.grownBy w'' (Value.slice m.fa L m.fc).ownBlock)=>WC0.out.blocks (BLK.out w' w'' b gr).1 (BLK.out w' w'' b gr).2)
  have FCG:=Hs (∀w' w'',Below wr.heap.size wr w'->w'.grownBy w'' (Value.slice m.fa L m.fc).ownBlock->w''.cell? ⟨T,86,none⟩=some (.slice m.fa L m.fc)/\w''.frozen? ⟨T,86,none⟩=false) (λw' w'' b gr=>by
   have q:=(BLK.out w' w'' b gr).1;refine⟨(World.cell?_of_block (a:=⟨T,86,none⟩) q).trans (TC.out wr (Below.refl _ _)),?_⟩;have:=(aG (q.trans tb.blk) tb.ok).2.2.2.2.2.2.2.2.2.1
   exact this)
  have WCS:=Hx (λw' (h:WC T m.K w.heap.size NU TA c w') (v:Value)=>h.set86 v)
  have ONE:=Hs (∀u∈[Value.int .i64 (k:Int),.int .i64 c.at',.int .i64 EP,.int .i64 NU,.string c.data,.int .i64 TA],u.oneCell'=true) (λu hu=>by
   simp only[List.mem_cons,List.mem_nil_iff,or_false]at hu
   rcases hu with h | h | h | h | h | h<;>subst h<;>rfl)
  have PUSH:=Hx (show ∀w' w'' g cap,w''.ownsRow w0.heap.size 124 6 (.slice (some ⟨g,0,none⟩) (L+1) cap) (L+1) (xs ++ [Value.int .i64 (k:Int),.int .i64 c.at',.int .i64 EP,.int .i64 NU,.string c.data,.int .i64 TA])->Below wr.heap.size wr w'->w'.grownBy w'' (Value.slice m.fa L m.fc).ownBlock->((Value.slice m.fa L m.fc).ownBlock=some g\/g=w'.heap.size)->g<w''.heap.size ->
    bR w0 n D T (t.w3 c (k+1)) Z (w''.setCell ⟨T,86,none⟩ (.slice (some ⟨g,0,none⟩) (L+1) cap))/\Same Z w1 (w''.setCell ⟨T,86,none⟩ (.slice (some ⟨g,0,none⟩) (L+1) cap)) from λw' w'' g cap own b gr Iw hlt'=>by
   have e1:(t.w3 c (k+1)).fly=(t.w3 c k).fly ++ [t.msg c (k:Int)]:=by
    unfold Tg.w3
    have:k=0\/k=1\/k=2:=by omega
    rcases this with rfl | rfl | rfl<;>simp
   have e2:(t.w3 c (k+1)).fly.length=L+1:=by rw[e1,List.length_append,hL]; rfl
   have e3:cq (t.w3 c (k+1)).fly=xs ++ [Value.int .i64 (k:Int),.int .i64 c.at',.int .i64 EP,.int .i64 NU,.string c.data,.int .i64 TA]:=by rw[e1,mT,hxs,<-HEP.out,<-HNU.out,<-HTA.out];rfl
   have e4:t.w3 c (k+1)={ t.w3 c k with fly:=(t.w3 c (k+1)).fly }:=rfl;rw[<-hL]at gr Iw;have q:=bR.push ki tb lo hy b g cap (t.w3 c (k+1)).fly (by rw[e2]; unfold dC; rw[e2,e3]; exact own) gr Iw hlt';rw[<-e4,e2]at q
   exact⟨q.1,λb hb=>(q.2 b hb).trans (HS.out b hb)⟩)
  clear ki tb lo hy hL hxs HR HS WC0 WCB0;go_upto_region 8 with fail
  obtain⟨S,hS⟩:∃S:World->Prop,S=λw'=>WC T m.K w.heap.size NU TA c w':=⟨_,rfl⟩
  have S3:∀w',WC T m.K w.heap.size NU TA c w'->S w':=λw' h=>by rw[hS]; exact h
  have S4:∀w',S w'->WC T m.K w.heap.size NU TA c w':=λw' h=>by rw[hS]at h; exact h
  clear hS;refine wp_region_held_drew (S:=S) (by kernel_rfl) (S3 _ (WCB.out _ (Below.refl _ _).drew)) (λdT=>?_);obtain⟨wd,IB⟩:=Nn wr.drew;rw[<-IB]at dT ⊢;have bd:Below wr.heap.size wr wd:=IB▸(Below.refl _ _).drew;clear IB;refine wt 0 _ dT ?_;go_simp;refine wt 1 _ dT ?_;go_simp;refine wt 2 _ dT ?_;go_simp;refine wt 3 _ dT ?_;go_simp;refine wt 5 _ dT ?_;go_simp;refine wt 6 _ dT ?_;go_simp;refine wt 7 (.int .i64 c.at') dT ?_ (hy:=Or.inl ⟨by rfl,λw' sT=>by have hc:=S4 _ sT; obtain⟨q0,q3,q4,q1,q5,q7⟩:=hc; go_simp⟩);go_simp;refine wt 8 _ dT ?_;go_simp;refine wt 9 _ dT ?_;go_simp;refine wt 10 _ dT ?_;go_simp;refine wt 11 (.pointer (some ⟨m.K,0,none⟩)) dT ?_ (hy:=Or.inl ⟨by rfl,λw' sT=>by have hc:=S4 _ sT; obtain⟨q0,q3,q4,q1,q5,q7⟩:=hc; go_simp⟩);go_simp;refine wt 13 _ dT ?_;go_simp;refine wt 14 _ dT ?_;go_simp;refine wt 15 _ dT ?_;go_simp;refine wt 16 (.int .i64 NU) dT ?_ (hy:=Or.inl ⟨by rfl,λw' sT=>by have hc:=S4 _ sT; obtain⟨q0,q3,q4,q1,q5,q7⟩:=hc; go_simp⟩);go_simp;refine wt 17 _ dT ?_;go_simp;refine wt 18 (.string c.data) dT ?_ (hy:=Or.inl ⟨by rfl,λw' sT=>by have hc:=S4 _ sT; obtain⟨q0,q3,q4,q1,q5,q7⟩:=hc; go_simp⟩);go_simp;refine wt 20 _ dT ?_;go_simp;refine wt 21 _ dT ?_;go_simp;refine wt 22 _ dT ?_;go_simp;refine wt 23 (.int .i64 TA) dT ?_ (hy:=Or.inl ⟨by rfl,λw' sT=>by have hc:=S4 _ sT; obtain⟨q0,q3,q4,q1,q5,q7⟩:=hc; go_simp⟩);go_simp;refine DV 4 12 (λKx hK=>?_) (λKx hK=>?_)
  .have hc4:=TC.out wd bd;go_simp;clear hc4;have IW:=dT;refine hK.out _ _ IW (λIb=>?_);clear hK Kx IW;refine eB 12 λKx hK=>?_;go_simp;refine(EPO.out _ bd).mono ?_;rintro e w2_ ⟨rfl,hq⟩;replace hq:=hq.symm;subst hq;have Je:=Ib;refine hK.out _ _ Je (λIa=>?_);clear hK Kx Je;refine wt 19 _ Ia ?_;go_simp;refine wt 24 _ Ia ?_;go_simp;refine eB 25 λKx hK=>?_;go_simp;obtain⟨w3_,Ip⟩:=Nn (wd.alloc (.cells #[.int .i64 (k:Int),.int .i64 c.at',.int .i64 EP,.int .i64 NU,.string c.data,.int .i64 TA] 124));have b3:Below wr.heap.size wr w3_:=Ip▸Below.alloc bd (bd).size _;have NB3:=Hs (w3_.heap[wd.heap.size]?=some (.cells #[.int .i64 (k:Int),.int .i64 c.at',.int .i64 EP,.int .i64 NU,.string c.data,.int .i64 TA] 124 (0,0))) (Ip▸heap_alloc_new _ _);rw[<-Ip];obtain⟨V3,hV3⟩:=Nm wd.heap.size;rw[hV3]at NB3 ⊢;clear Ip hV3;have JD:=S3 _ (WCB.out _ b3);refine hK.out _ _ JD (λID=>?_);clear hK Kx JD;refine eB 26 λKx hK=>?_;refine step_append_lies _ (by rfl) _ _ _ (by rfl) w0.heap.size 124 i0 _ 6 56 Tryz.underlying76 hi Ij Ii Im rfl (by omega) (.slice m.fa L m.fc) L xs (by rfl) (OMB.out _ b3) ⟨V3,0,none⟩ 1 1 _ (by rfl) (by rfl) (World.news_of_block NB3.out) (ONE.out) (by omega) (by unfold maxLen; omega) (by omega) (by have:=(b3).size; have:=LO1.out; omega) _ rfl ?_;intro g cap w4_ own gr Iw lB;have FW4:=FCG.out _ _ b3 gr;obtain⟨kd4,fd4⟩:=FW4;have KV:=S3 _ (WCG.out _ _ b3 gr);refine hK.out _ _ KV (λJi=>?_);clear hK Kx KV;go_simp;refine wt 27 _ Ji ?_;go_simp;refine wt 28 _ Ji ?_;go_simp;refine eB 29 λKx hK=>?_;go_simp;have KU:=S3 _ (WCS.out _ (S4 _ Ji) (.slice (some ⟨g,0,none⟩) (L+1) cap));have FIN:=Hx (PUSH.out _ _ g cap own b3 gr Iw lB);refine hK.out _ _ KU (λIM=>?_);clear hK Kx KU;refine wpAnyH_done (by kernel_rfl) ?_ _;clear own gr Iw lB kd4 fd4;go_wp2;go_roundw
   case rel=>exact⟨k+1,by omega,by go_num,FIN.out.1,FIN.out.2⟩
   case measure=>simp[intOf]; omega
  .go_simp;refine(EPO.out _ bd).mono ?_;rintro e w6_ ⟨rfl,hq⟩;replace hq:=hq.symm;subst hq;have KT:=dT;refine hK.out _ _ KT (λIt=>?_);clear hK Kx KT;refine wt 19 _ It ?_;go_simp;refine wt 24 _ It ?_;go_simp;refine DV 4 25 (λKx hK=>?_) (λKx hK=>?_)
   .have hc4:=TC.out wd bd;go_simp;clear hc4;have KQ:=It;refine hK.out _ _ KQ (λIC=>?_);clear hK Kx KQ;refine eB 25 λKx hK=>?_;go_simp;obtain⟨w8_,IU⟩:=Nn (wd.alloc (.cells #[.int .i64 (k:Int),.int .i64 c.at',.int .i64 EP,.int .i64 NU,.string c.data,.int .i64 TA] 124));have b8:Below wr.heap.size wr w8_:=IU▸Below.alloc bd (bd).size _;have NB8:=Hs (w8_.heap[wd.heap.size]?=some (.cells #[.int .i64 (k:Int),.int .i64 c.at',.int .i64 EP,.int .i64 NU,.string c.data,.int .i64 TA] 124 (0,0))) (IU▸heap_alloc_new _ _);rw[<-IU];obtain⟨V8,hV8⟩:=Nm wd.heap.size;rw[hV8]at NB8 ⊢;clear IU hV8;have KO:=S3 _ (WCB.out _ b8);refine hK.out _ _ KO (λOh=>?_);clear hK Kx KO;refine eB 26 λKx hK=>?_;refine step_append_lies _ (by rfl) _ _ _ (by rfl) w0.heap.size 124 i0 _ 6 56 Tryz.underlying76 hi Ij Ii Im rfl (by omega) (.slice m.fa L m.fc) L xs (by rfl) (OMB.out _ b8) ⟨V8,0,none⟩ 1 1 _ (by rfl) (by rfl) (World.news_of_block NB8.out) (ONE.out) (by omega) (by unfold maxLen; omega) (by omega) (by have:=(b8).size; have:=LO1.out; omega) _ rfl ?_;intro g cap w9_ own gr Iw lB;have FW9:=FCG.out _ _ b8 gr;obtain⟨kd9,fd9⟩:=FW9;have HH9:=S3 _ (WCG.out _ _ b8 gr);refine hK.out _ _ HH9 (λJU=>?_);clear hK Kx HH9;go_simp;refine wt 27 _ JU ?_;go_simp;refine wt 28 _ JU ?_;go_simp;refine eB 29 λKx hK=>?_;go_simp;have Le:=S3 _ (WCS.out _ (S4 _ JU) (.slice (some ⟨g,0,none⟩) (L+1) cap));have FIN:=Hx (PUSH.out _ _ g cap own b8 gr Iw lB);refine hK.out _ _ Le (λJV=>?_);clear hK Kx Le;refine wpAnyH_done (by kernel_rfl) ?_ _;clear own gr Iw lB kd9 fd9;go_wp2;go_roundw
    case rel=>exact⟨k+1,by omega,by go_num,FIN.out.1,FIN.out.2⟩
    case measure=>simp[intOf]; omega
   .go_simp;obtain⟨w11_,hw11⟩:=Nn (wd.alloc (.cells #[.int .i64 (k:Int),.int .i64 c.at',.int .i64 EP,.int .i64 NU,.string c.data,.int .i64 TA] 124));have b11:Below wr.heap.size wr w11_:=hw11▸Below.alloc bd (bd).size _;have NB11:=Hs (w11_.heap[wd.heap.size]?=some (.cells #[.int .i64 (k:Int),.int .i64 c.at',.int .i64 EP,.int .i64 NU,.string c.data,.int .i64 TA] 124 (0,0))) (hw11▸heap_alloc_new _ _);rw[<-hw11];obtain⟨V11,hV11⟩:=Nm wd.heap.size;rw[hV11]at NB11 ⊢;clear hw11 hV11;have Ld:=S3 _ (WCB.out _ b11);refine hK.out _ _ Ld (λJw=>?_);clear hK Kx Ld;refine eB 4 λKx hK=>?_;have hc4:=TC.out w11_ b11;go_simp;clear hc4;have Lc:=Jw;refine hK.out _ _ Lc (λIV=>?_);clear hK Kx Lc;refine eB 26 λKx hK=>?_;refine step_append_lies _ (by rfl) _ _ _ (by rfl) w0.heap.size 124 i0 _ 6 56 Tryz.underlying76 hi Ij Ii Im rfl (by omega) (.slice m.fa L m.fc) L xs (by rfl) (OMB.out _ b11) ⟨V11,0,none⟩ 1 1 _ (by rfl) (by rfl) (World.news_of_block NB11.out) (ONE.out) (by omega) (by unfold maxLen; omega) (by omega) (by have:=(b11).size; have:=LO1.out; omega) _ rfl ?_;intro g cap w13_ own gr Iw lB;have FW13:=FCG.out _ _ b11 gr;obtain⟨kd13,fd13⟩:=FW13;have La:=S3 _ (WCG.out _ _ b11 gr);refine hK.out _ _ La (λJv=>?_);clear hK Kx La;go_simp;refine wt 27 _ Jv ?_;go_simp;refine wt 28 _ Jv ?_;go_simp;refine eB 29 λKx hK=>?_;go_simp;have KY:=S3 _ (WCS.out _ (S4 _ Jv) (.slice (some ⟨g,0,none⟩) (L+1) cap));have FIN:=Hx (PUSH.out _ _ g cap own b11 gr Iw lB);refine hK.out _ _ KY (λhHeld14=>?_);clear hK Kx KY;refine wpAnyH_done (by kernel_rfl) ?_ _;clear own gr Iw lB kd13 fd13;go_wp2;go_roundw
    case rel=>exact⟨k+1,by omega,by go_num,FIN.out.1,FIN.out.2⟩
    case measure=>simp[intOf]; omega
 .have h3:k=3:=by omega
  subst h3;have BLT:=ki.lt;obtain⟨UO,hU1,hU2⟩:=gg (P:=Tryz.prog) (w:=wr.drew.alloc (.map #[] 0)) Tryz.underlying103 Tryz.underlying3 (tb.wait.move (Below.heap_alloc wr.drew (.map #[] 0) m.W tb.wait.lt)) TA (.agg #[.int .i64 c.who,.int .i64 NU,.map (some wr.heap.size)]);have UPD:=Hx hU1
  have hput:yy (bY (t.w3 c 3).wait m.hm) TA (.agg #[.int .i64 c.who,.int .i64 NU,.map (some wr.heap.size)])=bY (t.w3 c 3).wait m.hm ++ [(TA,.agg #[.int .i64 c.who,.int .i64 NU,.map (some wr.heap.size)])]:=by
   unfold yy
   rw[pD TA _ 0 (λp hp e=>by
    obtain⟨x,hx,e2⟩:=nX _ _ p hp;have:=HW.out.wt x hx;have:=HTA.out
    omega)]
  rw[hput]at hU2;obtain⟨tb2,kp2⟩:=tb.addWait BLT ⟨TA,c.who,NU,[]⟩ rfl UO hU2
  have FIN:=Hs (Ending.returned (.tuple #[.int .i64 TA,.nilIface])=.returned (.tuple #[.int .i64 TA,bg 0])/\bR w0 n D T { t with num:=NU,tag:=TA,fly:=t.fly ++ [t.msg c 0,t.msg c 1,t.msg c 2],wait:=t.wait ++ [⟨TA,c.who,NU,[]⟩] } Y (dK (wr.drew.alloc (.map #[] 0)) m.W UO)/\Same Y w (dK (wr.drew.alloc (.map #[] 0)) m.W UO)) (by
   refine⟨by rw[aH],?_,λb hb=>(kp2.block b (λe=>(hy b (ZY.out b hb)).2 (.inr (.inl e))) (BLT b (hy b (ZY.out b hb)).1)).trans ((HS.out b (ZY.out b hb)).trans (SY1.out b hb))⟩
   have e1:({ t with num:=NU,tag:=TA,fly:=t.fly ++ [t.msg c 0,t.msg c 1,t.msg c 2],wait:=t.wait ++ [⟨TA,c.who,NU,[]⟩] }:Tg)={ t.w3 c 3 with wait:=(t.w3 c 3).wait ++ [⟨TA,c.who,NU,[]⟩] }:=by unfold Tg.w3;rw[<-HNU.out,<-HTA.out];rfl
   rw[e1];refine⟨_,{ m with hm:=m.hm ++ [wr.heap.size] },ki.wide (kp2.mono (λb e=>e▸tb.xw)) lo,tb2,λb e=>?_,λb e=>⟨.inl (hy b (ZY.out b e)).1,λho=>?_⟩⟩
   .rcases e with e | e
    .exact lo b e
    .exact Nat.le_trans ki.below.size e.1
   .have hb:=hy b (ZY.out b e)
    rcases ho with ho | ho | ho | ho | ho
    .exact hb.2 (.inl ho)
    .exact hb.2 (.inr (.inl ho))
    .exact hb.2 (.inr (.inr (.inl ho)))
    .rcases List.mem_append.1 ho with ho | ho
     .exact hb.2 (.inr (.inr (.inr (.inl ho))))
     .have:=BLT b hb.1;have:b=wr.heap.size:=List.mem_singleton.1 ho;omega
    .exact hb.2 (.inr (.inr (.inr (.inr ho)))))
  have hW:∀b cs ty fr,wr.heap[b]?=some (.cells cs ty fr)->b≠m.W:=λb cs ty fr hc e=>by subst e;obtain⟨es,cl,h1,_⟩:=tb.wait;rw[h1]at hc; cases hc
  have WCB:=Hs (∀w',Below wr.heap.size wr w'->WC T m.K w.heap.size NU TA c w'/\w'.cell? ⟨T,85,none⟩=some (.map (some m.W))) (λw' b=>⟨WCB0.out w' b,(b.cell (p:=⟨T,85,none⟩) hT).trans (aG tb.blk tb.ok).1.2.2.2.2.2.2.2.1⟩)
  have WCU:=Hs (WC T m.K w.heap.size NU TA c (dK (wr.drew.alloc (.map #[] 0)) m.W UO)/\(dK (wr.drew.alloc (.map #[] 0)) m.W UO).cell? ⟨T,85,none⟩=some (.map (some m.W))) (by
   have q1:=kp2.block T (hW T _ _ _ tb.blk) hT;have q2:=kp2.block w.heap.size (hW _ _ _ _ ((HS.out _ ZA.out).trans R1.out)) hA
   exact⟨WC0.out.blocks q1 q2,(World.cell?_of_block (a:=⟨T,85,none⟩) q1).trans (aG tb.blk tb.ok).1.2.2.2.2.2.2.2.1⟩)
  clear ki tb lo hy HR HS WC0 WCB0 hU1 hU2 hput tb2 kp2 BLT hW EPO HF hk lB;go_upto_region 10 with fail
  obtain⟨S,hS⟩:∃S:World->Prop,S=λw'=>WC T m.K w.heap.size NU TA c w'/\w'.cell? ⟨T,85,none⟩=some (.map (some m.W)):=⟨_,rfl⟩
  have S3:∀w',WC T m.K w.heap.size NU TA c w'/\w'.cell? ⟨T,85,none⟩=some (.map (some m.W))->S w':=λw' h=>by rw[hS]; exact h
  have S4:∀w',S w'->WC T m.K w.heap.size NU TA c w'/\w'.cell? ⟨T,85,none⟩=some (.map (some m.W)):=λw' h=>by rw[hS]at h; exact h
  clear hS;refine wp_region_held_drew (S:=S) (by kernel_rfl) (S3 _ (WCB.out _ (Below.refl _ _).drew)) (λdT=>?_);obtain⟨wd,IB⟩:=Nn wr.drew;rw[<-IB]at dT ⊢;have bd:Below wr.heap.size wr wd:=IB▸(Below.refl _ _).drew;have HWD:=Hx IB;clear IB;refine wt 0 _ dT ?_;go_simp;refine wt 1 _ dT ?_;go_simp;refine wt 2 _ dT ?_;go_simp;refine wt 3 (.map (some m.W)) dT ?_ (hy:=Or.inl ⟨by rfl,λw' sT=>by have hc:=S4 _ sT; obtain⟨⟨q0,q3,q4,q1,q5,q7⟩,qw⟩:=hc; go_simp⟩);go_simp;refine wt 4 _ dT ?_;go_simp;refine wt 5 _ dT ?_;go_simp;refine wt 6 _ dT ?_;go_simp;refine wt 7 (.int .i64 TA) dT ?_ (hy:=Or.inl ⟨by rfl,λw' sT=>by have hc:=S4 _ sT; obtain⟨⟨q0,q3,q4,q1,q5,q7⟩,qw⟩:=hc; go_simp⟩);go_simp;refine wt 8 _ dT ?_;go_simp;refine wt 9 (.int .i64 c.who) dT ?_ (hy:=Or.inl ⟨by rfl,λw' sT=>by have hc:=S4 _ sT; obtain⟨⟨q0,q3,q4,q1,q5,q7⟩,qw⟩:=hc; go_simp⟩);go_simp;refine wt 10 _ dT ?_;go_simp;refine wt 11 _ dT ?_;go_simp;refine wt 12 _ dT ?_;go_simp;refine wt 13 (.int .i64 NU) dT ?_ (hy:=Or.inl ⟨by rfl,λw' sT=>by have hc:=S4 _ sT; obtain⟨⟨q0,q3,q4,q1,q5,q7⟩,qw⟩:=hc; go_simp⟩);go_simp;refine eB 14 λKx hK=>?_;go_simp;obtain⟨w1_,pX⟩:=Nn (wd.alloc (.map #[] 0));have b1:Below wr.heap.size wr w1_:=pX▸Below.alloc bd (bd).size _;have HZ1:=Hs (wd.heap.size=wr.heap.size) (by rw[HWD.out]; rfl);have HW1:=Hs (w1_=wr.drew.alloc (.map #[] 0)) (by rw[pX,HWD.out]);rw[<-pX];rw[HZ1.out];clear pX;have IW:=S3 _ (WCB.out _ b1);refine hK.out _ _ IW (λIb=>?_);clear hK Kx IW;refine wt 15 _ Ib ?_;go_simp;refine eB 16 λKx hK=>?_;rw[HW1.out];refine tI (by rfl) _ _ _ _ (by rfl) (dK (wr.drew.alloc (.map #[] 0)) m.W UO) (by simp[Act.eval]; exact UPD.out) ?_;have Je:=S3 _ (WCU.out);refine hK.out _ _ Je (λIa=>?_);clear hK Kx Je;simp only[Act.put,getElem_toArray,getElem_cons_zero,getElem_cons_succ];refine wpAnyH_done (by kernel_rfl) ?_ _;have qq:=S4 _ Ia;obtain⟨⟨q0,q3,q4,q1,q5,q7⟩,qw⟩:=qq;obtain⟨wz,hwz⟩:=Nn (dK (wr.drew.alloc (.map #[] 0)) m.W UO);rw[<-hwz]at q4 FIN ⊢;clear q0 q3 q1 q5 q7 qw hwz Ia;go_wp2;exact bodyPost_ret (v:=.tuple #[.int .i64 TA,.nilIface]) (by simp[results,Tryz.results50,go_sem]) rfl FIN.out
end
