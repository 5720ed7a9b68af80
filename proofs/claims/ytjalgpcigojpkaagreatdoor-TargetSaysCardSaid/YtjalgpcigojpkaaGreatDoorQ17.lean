import Derived.Test.YtjalgpcigojpkaaGreatDoorQ15
set_option maxRecDepth 99999
set_option maxHeartbeats 99999999
namespace Go.Proofs.YtjalgpcigojpkaaGreatDoor
section
open Go.RowKit
def gy(b:Bx)(who what:Int)(w:World)(e:Ending)(w':World):Prop :=
 ∃s:Sl,e=.returned (.agg (b.set who s).cells)/\s.ok w'/\s.l=ia (b.get who).l what/\Below w.heap.size w w'/\(s=b.get who\/fB w.heap.size w' s.a s.l)
theorem gy.mk{b:Bx}{who what:Int}{w:World}{e:Ending}{w':World}{s:Sl}(h1:e=.returned (.agg (b.set who s).cells))(h2:s.ok w')(h3:s.l=ia (b.get who).l what)(h4:Below w.heap.size w w')(h5:s=b.get who\/fB w.heap.size w' s.a s.l):gy b who what w e w':=⟨s,h1,h2,h3,h4,h5⟩
theorem wS{W w1:World}{n:Nat}(hb:Below n W w1){b:Nat}(hbn:b<n){v0 v1:Value}{T:TypeId}(h:W.heap[b]?=some (.cells #[v0,v1] T (0,0))) : (w1.cell? ⟨b,0,none⟩=some v0/\w1.cell? ⟨b,1,none⟩=some v1)/\(w1.frozen? ⟨b,0,none⟩=false/\w1.frozen? ⟨b,1,none⟩=false):=by
 have h1:w1.heap[b]?=some (.cells #[v0,v1] T (0,0)):=(hb.block b hbn).trans h;simp[World.cell?,World.frozen?,h1]
theorem bh.drewN{B:Nat}{w:World}{v:Value}{l:List Int}(h:bh B w v l)(n:Nat):bh B (w.drewN n) v l:=h
theorem iv(w:World)(v:Value)(T:TypeId):(w.alloc (.cells #[v] T)).cell? ((⟨w.heap.size,0,none⟩:Addr).add 0)=some v:=by simp[Addr.add]
theorem rU{B:Nat}{w:World}{v:Value}{l:List Int}{n:Nat}{x:Int}{xs:List Value}(h:w.ownsRow B 3 1 v n xs)(hn:n=l.length+1)(hx:xs=l.map (Value.int .i64) ++ [.int .i64 x]) : ∃a c,v=.slice a (l.length+1) c/\¬ c<l.length+1/\bh B w (.slice a (l.length+1) c) (l ++ [x]):=by
 subst hn hx
 have h':bh B w v (l ++ [x]):=by simpa[bh] using h
 obtain⟨a,c,rfl,hi⟩:=h'.shape;have hc:=h'.cap;simp only[List.length_append,List.length_cons,List.length_nil,Nat.zero_add]at h' hc ⊢;exact⟨a,c,rfl,by omega,h'⟩
theorem zO(w:World)(o p q:Obj):Below w.heap.size w (((w.alloc o).alloc p).alloc q):=(zP w o p).alloc (by simp; omega) _
theorem sS{b:Bx}{who what:Int}{w W2 w2 w':World}{a:Option Addr}{l':List Int}{c:Nat}{e:Ending}{B:Nat}(ec:fB B w2 a l')(hB:B=w.heap.size+3)(IF:l'.length<=c)(hlen:l'.length<=5)
  (hb:Below W2.heap.size W2 w2) (hW:Below w.heap.size w W2/\w.heap.size+3=W2.heap.size) (kp:ac (λk=>k=w.heap.size\/k=w.heap.size+2) w2 w')
  (he:e=.returned (.agg (b.set who ⟨a,l',c⟩).cells)) (ht:l'=ia (b.get who).l what):gy b who what w e w':=by
 have hk:∀k,(k=w.heap.size\/k=w.heap.size+2)->k<w.heap.size+3:=λk hk=>by omega
 have hz:=hb.size;have h0:=hW.2;subst hB;refine gy.mk (s:=⟨a,l',c⟩) he ⟨(ec.keeps kp hk).ints,hlen,IF⟩ ht ?_ (.inr ((ec.keeps kp hk).mono (by omega)));exact(hW.1.trans (hb.mono (by omega))).trans (kp.below (by omega) (λk hk=>by omega))
theorem C7{b:Bx}{who what:Int}{w W2 w2 w':World}{s:Sl}{e:Ending}(J0:s.ok w)
  (hb:Below W2.heap.size W2 w2) (hW:Below w.heap.size w W2/\w.heap.size+3=W2.heap.size) (kp:ac (λk=>k=w.heap.size\/k=w.heap.size+2) w2 w')
  (he:e=.returned (.agg (b.set who s).cells)) (ht:s.l=ia (b.get who).l what) (hs:s=b.get who:=by rfl):gy b who what w e w':=by
 have hz:=hb.size;have h0:=hW.2;have MZ:Below w.heap.size w w':=(hW.1.trans (hb.mono (by omega))).trans (kp.below (by omega) (λk hk=>by omega));exact gy.mk he (J0.below MZ) ht MZ (.inl hs)
theorem pL(l:List Int)(x:Int)(n:Nat)(hn:l.length=n+1)(h:l[n]≠x)(h4:l.length<=4):ia l x=l ++ [x]:=by rw[pM l x n hn h,show l.length+1 - 5=0 from by omega]; rfl
theorem C9(b:Bx)(who what:Int)(w:World)(hr:b.ok w)(hw:1<=who/\who<=4) : Calls Tryz.prog 89 #[.agg b.cells,.agg #[.int .i64 who,.int .i64 what]] w (gy b who what w):=by
 obtain⟨s1,s2,s3,s4⟩:=b;obtain⟨i0,hi,Ij,Ii,Im⟩:=info_parts Tryz.infoInt
 have h4:who=1\/who=2\/who=3\/who=4:=by omega
 rcases h4 with rfl | rfl | rfl | rfl
 have ok:=hr.o1; obtain⟨a,l,c⟩:=s1;rotate_left 1;have ok:=hr.o2; obtain⟨a,l,c⟩:=s2;rotate_left 1;have ok:=hr.o3; obtain⟨a,l,c⟩:=s3;rotate_left 1;have ok:=hr.o4; obtain⟨a,l,c⟩:=s4;rotate_left 1
 all_goals
  have hlen1:l.length<=5:=ok.len;have O1:=Hx (λ(o p q:Obj)=>(ok.ints.below (zO w o p q) (Nat.le_refl _)).mono (zO w o p q).size);have OL:=Hx ok;clear ok hr hw;dsimp only[Bx.cells,Sl.v]
  cases l with
  | nil =>
   dsimp only[List.length_nil];go_enter Tryz.func89,Tryz.ntmps89
   go_wp2_with fail;refine(jS [] _ _ _ _ rfl (by simp) (Ints.nil _ _ _)).mono ?_;rintro e w1 ⟨a',c',rfl,ec,hb⟩;have Ie:=Hx ec;have Iy:=Hx ec.blk;clear ec;obtain⟨⟨d0,d1,d2,d3⟩,f0,f1,f2,f3⟩:=jU hb (b:=w.heap.size) (by simp; omega) (aO w _ _ _).1;obtain⟨⟨t0,t1⟩,u0,u1⟩:=wS hb (b:=w.heap.size+1) (by simp) (aO w _ _ _).2.1;obtain⟨⟨x0,x1,x2,x3⟩,y0,y1,y2,y3⟩:=jU hb (b:=w.heap.size+2) (by simp) (aO w _ _ _).2.2;go_wp2;go_quiet (fail)
   go_wp2_with (at_builtin; refine wpList_append_own _ rfl _ _ 71 rfl _ 3 i0 (.int .i64 0) 1 8 Tryz.underlying71 hi Ij Ii Im rfl (by decide) _ _ _ rfl ((bh.drewN Ie.out _).alloc _) ⟨w1.heap.size,0,none⟩ 1 1 [.int .i64 what] rfl rfl ?c ?c2 ?c3 ?c4 ?c5 ?_)
   case c =>
    intro j u hj
    match j,hj with
    | 0,hj=>simp at hj; subst hj; exact iv (w1.drewN _) _ _
   case c2=>intro u hu; simp at hu; subst hu; rfl
   case c3=>unfold maxLen; omega
   case c4=>omega
   case c5=>exact Nat.le_trans hb.size (ay (w1.drewN _) _).size
   intro v' w2 jZ Il _;obtain⟨a2',c2',rfl,hcz,Ig⟩:=rU (l:=[]) (x:=what) jZ rfl rfl;have Ih:=((below_drewN hb _).alloc hb.size (.cells #[.int .i64 what] 3)).grown Il (Nat.le_trans hb.size (ay (w1.drewN _) _).size) Iy.out;have HO2:=Hx Ig;clear jZ Ig Il d0 d1 d2 d3 f0 f1 f2 f3 t0 t1 u0 u1 x0 x1 x2 x3 y0 y1 y2 y3;obtain⟨⟨d0,d1,d2,d3⟩,f0,f1,f2,f3⟩:=jU Ih (b:=w.heap.size) (by simp; omega) (aO w _ _ _).1;obtain⟨⟨t0,t1⟩,u0,u1⟩:=wS Ih (b:=w.heap.size+1) (by simp) (aO w _ _ _).2.1;obtain⟨⟨x0,x1,x2,x3⟩,y0,y1,y2,y3⟩:=jU Ih (b:=w.heap.size+2) (by simp) (aO w _ _ _).2.2;go_wp2;go_region;go_wp2;refine bodyPost_ret (v:=_) (by have hm:max (0:Int) (-4)=0:=(by decide); simp[results,Tryz.results89,go_sem, *]; rfl) rfl ?_;refine sS (l':=[what]) (c:=c2') HO2.out.hi rfl (by simp at hcz⊢; omega) (by simp) Ih ⟨zO w _ _ _,by simp⟩ ?_ (by simp[Bx.set]) (by simp[Bx.get,ia])
   repeat(first|with_reducible exact ac.refl _ _ | (with_reducible refine ac.drew ?_)|(with_reducible refine ac.setCell ?_ (.inl rfl) _)|(with_reducible refine ac.setCell ?_ (.inr rfl) _))
  | cons x t =>
   have Lh:=Nat.lt_succ_self t.length
   rcases (by omega:(x :: t)[t.length]'(by simp)=what\/(x :: t)[t.length]'(by simp)≠what) with hx | hx
   .have ADD:=Hx (rq (x :: t) what t.length rfl hx);dsimp only[List.length_cons]at *
    have x1:IntKind.i64.wrap ((t.length:Int)+1 - 1)=(t.length:Int):=by rw[IntWalk.i64_in _ (by omega)]; omega
    have x2:(t.length:Int)+1 - 1=(t.length:Int):=by omega
    go_enter Tryz.func89,Tryz.ntmps89
    go_wp2_with fail;refine(jS (x :: t) _ _ _ _ rfl (by simp; omega) (O1.out _ _ _)).mono ?_;rintro e w1 ⟨a',c',rfl,ec,hb⟩;obtain⟨b',o',rfl,-,-,cl⟩:=ec.hi t.length (by simp);obtain⟨⟨d0,d1,d2,d3⟩,f0,f1,f2,f3⟩:=jU hb (b:=w.heap.size) (by simp; omega) (aO w _ _ _).1;obtain⟨⟨t0,t1⟩,u0,u1⟩:=wS hb (b:=w.heap.size+1) (by simp) (aO w _ _ _).2.1;obtain⟨⟨x0,x1,x2,x3⟩,y0,y1,y2,y3⟩:=jU hb (b:=w.heap.size+2) (by simp) (aO w _ _ _).2.2;rw[hx]at cl;clear hx ec;go_wp2;go_quiet (fail)
    go_wp2;refine bodyPost_ret (v:=_) (by simp[results,Tryz.results89,go_sem, *]; rfl) rfl ?_;refine C7 OL.out hb ⟨zO w _ _ _,by simp⟩ ?_ (by simp[Bx.set]) (by simpa[Bx.get] using ADD.out.symm)
    repeat(first|with_reducible exact ac.refl _ _ | (with_reducible refine ac.drew ?_)|(with_reducible refine ac.drewN ?_ _)|(with_reducible refine ac.setCell ?_ (.inl rfl) _)|(with_reducible refine ac.setCell ?_ (.inr rfl) _))
   .rcases (by simp at hlen1; omega:t.length<=3\/t.length=4) with h3 | h4
    .have ADD:=Hx (pL (x :: t) what t.length rfl hx (by simp; omega));obtain⟨y,hy⟩:=Nm ((x :: t)[t.length]'(by simp));rw[hy]at hx
     have hyb:(y == what)=false:=by simpa using hx
     dsimp only[List.length_cons]at *
     have q1:IntKind.i64.wrap ((t.length:Int)+1 - 1)=(t.length:Int):=by rw[IntWalk.i64_in _ (by omega)]; omega
     have q2:(t.length:Int)+1 - 1=(t.length:Int):=by omega
     clear hx;go_enter Tryz.func89,Tryz.ntmps89
     go_wp2_with fail;refine(jS (x :: t) _ _ _ _ rfl (by simp; omega) (O1.out _ _ _)).mono ?_;rintro e w1 ⟨a',c',rfl,ec,hb⟩;have Ie:=Hx ec;have Iy:=Hx ec.blk;obtain⟨b',o',rfl,-,-,cl⟩:=ec.hi t.length (by simp);rw[hy]at cl;clear hy ec;obtain⟨⟨d0,d1,d2,d3⟩,f0,f1,f2,f3⟩:=jU hb (b:=w.heap.size) (by simp; omega) (aO w _ _ _).1;obtain⟨⟨t0,t1⟩,u0,u1⟩:=wS hb (b:=w.heap.size+1) (by simp) (aO w _ _ _).2.1;obtain⟨⟨x0,x1,x2,x3⟩,y0,y1,y2,y3⟩:=jU hb (b:=w.heap.size+2) (by simp) (aO w _ _ _).2.2;go_wp2;go_quiet (fail)
     go_wp2_with (at_builtin; refine wpList_append_own _ rfl _ _ 71 rfl _ 3 i0 (.int .i64 0) 1 8 Tryz.underlying71 hi Ij Ii Im rfl (by decide) _ _ _ rfl ((bh.drewN Ie.out _).alloc _) ⟨w1.heap.size,0,none⟩ 1 1 [.int .i64 what] rfl rfl ?c ?c2 ?c3 ?c4 ?c5 ?_)
     case c =>
      intro j u hj
      match j,hj with
      | 0,hj=>simp at hj; subst hj; exact iv (w1.drewN _) _ _
     case c2=>intro u hu; simp at hu; subst hu; rfl
     case c3=>unfold maxLen; simp only[List.length_cons]; omega
     case c4=>simp only[List.length_cons]; omega
     case c5=>exact Nat.le_trans hb.size (ay (w1.drewN _) _).size
     intro v' w2 jZ Il _;obtain⟨a2',c2',rfl,hcz,Ig⟩:=rU (l:=(x :: t)) (x:=what) jZ rfl rfl;dsimp only[List.length_cons,List.length_nil]at hcz Ig ⊢;have Ih:=((below_drewN hb _).alloc hb.size (.cells #[.int .i64 what] 3)).grown Il (Nat.le_trans hb.size (ay (w1.drewN _) _).size) Iy.out;obtain⟨b2',o2',rfl,-⟩:=Ig.hi 0 (by simp);have HO2:=Hx Ig.hi;clear jZ Ig Il d0 d1 d2 d3 f0 f1 f2 f3 t0 t1 u0 u1 x0 x1 x2 x3 y0 y1 y2 y3 cl;obtain⟨⟨d0,d1,d2,d3⟩,f0,f1,f2,f3⟩:=jU Ih (b:=w.heap.size) (by simp; omega) (aO w _ _ _).1;obtain⟨⟨t0,t1⟩,u0,u1⟩:=wS Ih (b:=w.heap.size+1) (by simp) (aO w _ _ _).2.1;obtain⟨⟨x0,x1,x2,x3⟩,y0,y1,y2,y3⟩:=jU Ih (b:=w.heap.size+2) (by simp) (aO w _ _ _).2.2;go_wp2;go_region;go_wp2;refine bodyPost_ret (v:=_) (by have hm:max (0:Int) ((t.length:Int)+1+1 - 5)=0:=(by omega); simp[results,Tryz.results89,go_sem, *]; rfl) rfl ?_;refine sS (l':=(x :: t) ++ [what]) (c:=c2') HO2.out rfl (by simp; omega) (by simp; omega) Ih ⟨zO w _ _ _,by simp⟩ ?_ (by simp[Bx.set]) (by simpa[Bx.get] using ADD.out.symm)
     repeat(first|with_reducible exact ac.refl _ _ | (with_reducible refine ac.drew ?_)|(with_reducible refine ac.drewN ?_ _)|(with_reducible refine ac.setCell ?_ (.inl rfl) _)|(with_reducible refine ac.setCell ?_ (.inr rfl) _))
    .have:∃p q r s,t=[p,q,r,s]:=by
      match t,h4 with
      | [p,q,r,s],_=>exact⟨p,q,r,s,rfl⟩
     obtain⟨p,q,r,s,rfl⟩:=this;have ADD:=Hx (pM [x,p,q,r,s] what 4 rfl hx);dsimp only[List.length_cons,List.length_nil]at *;have hy:[x,p,q,r,s][4]=s:=rfl
     have hyb:(s == what)=false:=by simpa using hx
     clear hx h4;go_enter Tryz.func89,Tryz.ntmps89
     go_wp2_with fail;refine(jS [x,p,q,r,s] _ _ _ _ rfl (by simp) (O1.out _ _ _)).mono ?_;rintro e w1 ⟨a',c',rfl,ec,hb⟩;have Ie:=Hx ec;have Iy:=Hx ec.blk;obtain⟨b',o',rfl,-,-,cl⟩:=ec.hi 4 (by simp);rw[hy]at cl;clear hy ec;obtain⟨⟨d0,d1,d2,d3⟩,f0,f1,f2,f3⟩:=jU hb (b:=w.heap.size) (by simp; omega) (aO w _ _ _).1;obtain⟨⟨t0,t1⟩,u0,u1⟩:=wS hb (b:=w.heap.size+1) (by simp) (aO w _ _ _).2.1;obtain⟨⟨x0,x1,x2,x3⟩,y0,y1,y2,y3⟩:=jU hb (b:=w.heap.size+2) (by simp) (aO w _ _ _).2.2;go_wp2;go_quiet (fail)
     go_wp2_with (at_builtin; refine wpList_append_own _ rfl _ _ 71 rfl _ 3 i0 (.int .i64 0) 1 8 Tryz.underlying71 hi Ij Ii Im rfl (by decide) _ _ _ rfl ((bh.drewN Ie.out _).alloc _) ⟨w1.heap.size,0,none⟩ 1 1 [.int .i64 what] rfl rfl ?c ?c2 ?c3 ?c4 ?c5 ?_)
     case c =>
      intro j u hj
      match j,hj with
      | 0,hj=>simp at hj; subst hj; exact iv (w1.drewN _) _ _
     case c2=>intro u hu; simp at hu; subst hu; rfl
     case c3=>unfold maxLen; simp only[List.length_cons,List.length_nil]; omega
     case c4=>simp only[List.length_cons,List.length_nil]; omega
     case c5=>exact Nat.le_trans hb.size (ay (w1.drewN _) _).size
     intro v' w2 jZ Il _;obtain⟨a2',c2',rfl,hcz,Ig⟩:=rU (l:=[x,p,q,r,s]) (x:=what) jZ rfl rfl;dsimp only[List.length_cons,List.length_nil]at hcz Ig ⊢;have Ih:=((below_drewN hb _).alloc hb.size (.cells #[.int .i64 what] 3)).grown Il (Nat.le_trans hb.size (ay (w1.drewN _) _).size) Iy.out;obtain⟨b2',o2',rfl,-⟩:=Ig.hi 0 (by simp);have HO2:=Hx Ig.hi;clear jZ Ig Il d0 d1 d2 d3 f0 f1 f2 f3 t0 t1 u0 u1 x0 x1 x2 x3 y0 y1 y2 y3 cl;obtain⟨⟨d0,d1,d2,d3⟩,f0,f1,f2,f3⟩:=jU Ih (b:=w.heap.size) (by simp; omega) (aO w _ _ _).1;obtain⟨⟨t0,t1⟩,u0,u1⟩:=wS Ih (b:=w.heap.size+1) (by simp) (aO w _ _ _).2.1;obtain⟨⟨x0,x1,x2,x3⟩,y0,y1,y2,y3⟩:=jU Ih (b:=w.heap.size+2) (by simp) (aO w _ _ _).2.2;go_wp2;go_region;go_wp2;refine bodyPost_ret (v:=_) (by have hm:max (0:Int) 1=1:=(by decide); simp[results,Tryz.results89,go_sem, *]; rfl) rfl ?_;refine sS (l':=[p,q,r,s,what]) (c:=c2' - 1) (fB.tail (x:=x) (t:=[p,q,r,s,what]) HO2.out) rfl (by simp; omega) (by simp) Ih ⟨zO w _ _ _,by simp⟩ ?_ (by simp[Bx.set]) (by simpa[Bx.get] using ADD.out.symm)
     repeat(first|with_reducible exact ac.refl _ _ | (with_reducible refine ac.drew ?_)|(with_reducible refine ac.drewN ?_ _)|(with_reducible refine ac.setCell ?_ (.inl rfl) _)|(with_reducible refine ac.setCell ?_ (.inr rfl) _))
def rx(b:Bx)(M:Nat)(who:Int)(w:World)(e:Ending)(w':World):Prop :=
 ∃s:Sl,e=.returned (.int .i64 (takeN (b.get who).l))/\s.ok w'/\s.l=(b.get who).l.tail/\w'.heap[M]?=some (.cells (b.set who s).cells 74 (0,0))/\ac (·=M) w w'
theorem rx.mk{b:Bx}{M:Nat}{who:Int}{w:World}{e:Ending}{w':World}{s:Sl}(h1:e=.returned (.int .i64 (takeN (b.get who).l)))(h2:s.ok w')(h3:s.l=(b.get who).l.tail)(h4:w'.heap[M]?=some (.cells (b.set who s).cells 74 (0,0)))(h5:ac (·=M) w w'):rx b M who w e w':=⟨s,h1,h2,h3,h4,h5⟩
theorem FO{w:World}{a:Option Addr}{l:List Int}{n M:Nat}{b:Bx}{T:TypeId}(h:Ints n w a l)(hl:l≠[])(hM:w.heap[M]?=some (.cells b.cells T (0,0))):∀x,a=some x->x.block≠M:=by
 rintro x rfl;obtain⟨b',o',e,_,c⟩:=h 0 (List.length_pos_iff.2 hl);cases e
 rintro rfl;simp only[World.cell?,hM]at c
 have:∀(o':Nat) (z:Int),(b.cells)[o']?≠some (.int .i64 z):=by
  intro o' z
  match o' with
  | 0=>simp
  | 1=>simp
  | 2=>simp
  | 3=>simp
  | n+4=>simp
 simp at c;exact this _ _ (by simpa using c)
theorem Sl.ok.keeps{S:Nat->Prop}{s:Sl}{w w':World}(h:s.ok w)(k:ac S w w')(hS:∀m,S m->m<w.heap.size->∃(b:Bx) (T:TypeId),w.heap[m]?=some (.cells b.cells T (0,0))):s.ok w':=by
 refine⟨?_,h.len,h.cap⟩;by_cases hl:s.l=[]
 .rw[hl]; exact Ints.nil _ _ _
 intro i hi;obtain⟨b',o',e,hb,c⟩:=h.ints i hi;refine⟨b',o',e,Nat.lt_of_lt_of_le hb k.size,?_⟩;rw[k.cell (λhs=>?_) hb]
 .exact c
 .obtain⟨b,T,hM⟩:=hS _ hs hb;exact FO h.ints hl hM _ e rfl
theorem Bx.ok.keeps{S:Nat->Prop}{b:Bx}{w w':World}(h:b.ok w)(k:ac S w w')(hS:∀m,S m->m<w.heap.size->∃(b:Bx) (T:TypeId),w.heap[m]?=some (.cells b.cells T (0,0))):b.ok w' :=
 ⟨h.o1.keeps k hS,h.o2.keeps k hS,h.o3.keeps k hS,h.o4.keeps k hS⟩
theorem rV(B:Nat)(w:World):w.ownsRow B 3 1 (.slice none 0 0) 0 []:=⟨rfl,.inl ⟨rfl,rfl⟩⟩
theorem ey{w W:World}{o:Obj}{n:Nat}{P:Prop}(h:Below n (w.alloc o) W/\P):w.heap.size+1<=W.heap.size:=by have:=h.1.size; simpa using this
theorem Av{w W:World}{o:Obj}{P:Prop}{a:Option Addr}{l:List Int}(hi:Ints w.heap.size w a l)(h:Below (w.heap.size+1) (w.alloc o) W/\P):Ints w.heap.size W a l :=
 (hi.below (ay w o) (Nat.le_refl _)).below h.1 (Nat.le_succ _)
theorem Fh{w W:World}{u v:Value}{T:TypeId}(h:Below (w.heap.size+1) (w.alloc (.cells #[u,v] T)) W):Below (w.heap.size+1) (w.alloc (.cells #[u,v] T)) W/\W.cell? ⟨w.heap.size,1,none⟩=some v :=
 ⟨h,by rw[h.cell (p:=⟨w.heap.size,1,none⟩) (Nat.lt_succ_self _)]; simp⟩
theorem oV{w:World}{B g c n:Nat}{xs:List Value}{e:TypeId}{z:Nat}(h:w.ownsRow B e z (.slice (some ⟨g,0,none⟩) n c) n xs):B<=g:=by
 rcases h.2 with⟨h,_⟩ | ⟨g',cap,cur,e',hg,_⟩
 .cases h
 .cases e'; exact hg
theorem sL(w:World)(v:Value)(T:TypeId){n:Nat}(h:n=w.heap.size):(w.alloc (.cells #[v] T)).cell? ((⟨n,0,none⟩:Addr).add 0)=some v:=h▸iv w v T
theorem jo{w:World}{a:Addr}{v:Value}(h:w.cell? (a.add 0)=some v):∀(j:Nat) (u:Value),[v][j]?=some u->w.cell? (a.add j)=some u:=by
 intro j u hj
 match j,hj with
 | 0,hj=>simp at hj; subst hj; exact h
theorem rT{B:Nat}{w:World}{g n c:Nat}{l:List Int}{x:Int}(h:w.ownsRow B 3 1 (.slice (some ⟨g,0,none⟩) n c) n (l.map (Value.int .i64) ++ [.int .i64 x])):n<=c/\fB B w (some ⟨g,0,none⟩) (l ++ [x]):=by
 have hn:n=(l ++ [x]).length:=by have:=h.1; simp at this⊢; omega
 subst hn
 have h':bh B w (.slice (some ⟨g,0,none⟩) (l ++ [x]).length c) (l ++ [x]):=by simpa[bh] using h
 exact⟨h'.cap,h'.hi⟩
theorem ny(P:Program)(w:World)(t ty e:TypeId)(i:TypeInfo)(ht:P.underlying t=some (.slice e))(hi:P.info? e=some i)(ad:Option Addr)(c:Nat) : (Builtin.append_ #[t,t] ty #[.slice none 0 0,.slice ad 0 c]).run P w=.ok (.slice none 0 0) w:=by
 cases ad<;>simp[Builtin.append_,run_underlying ht,sizeOf,typeInfo,hi,Builtin.lenOf,Builtin.firstCells,loadCells,loadCellsFrom]
theorem mb(P:Program)(w:World){ops:Array Oper}{o:Oper}{a:Act}{K:Act->World->Prop}{Q:Exit->Act->World->Prop}{E:Prop}(I9:o.guard=none)(s x:Operand)(t:TypeId)(ho:o.op=.call { callee:=.builtin .append,args:=#[s,x],argTypes:=#[t,t] })(e:TypeId)(i:TypeInfo)(ht:P.underlying t=some (.slice e))(hi:P.info? e=some i)(ad:Option Addr)(c:Nat)(hs:a.eval s=.slice none 0 0)(hx:a.eval x=.slice ad 0 c)(h:K (a.put o.dst (.slice none 0 0)) w):if Region.wanted o (yielded ops a.tmps)=true then Oper.wp P o a w K Q else E:=by
 have hw:Region.wanted o (yielded ops a.tmps)=true:=by simp[Region.wanted,I9]
 rw[if_pos hw];unfold Oper.wp execOp;simp only[ho,resolve,invoke,builtin,Sem.run_bind,Sem.run_pure,Result.andThen_ok,List.map_toArray,List.map_cons,List.map_nil,hs,hx,ny P w t _ e i ht hi];exact h
def wW(w:World)(e:Ending)(w':World):Prop :=
 ∃b:Bx,e=.returned (.agg b.cells)/\b.ok w'/\(b.s1.l=[4]/\b.s2.l=[4]/\b.s3.l=[4]/\b.s4.l=[4])/\Below w.heap.size w w'/\∀k,fB w.heap.size w' (b.get k).a (b.get k).l
theorem sn{B:Nat}{w:World}{b:Nat}{x:Int}{T:TypeId}(h:w.heap[b]?=some (.cells #[.int .i64 x] T (0,0)))(hB:B<=b):fB B w (some ⟨b,0,none⟩) [x]:=by
 intro i hi
 obtain rfl:i=0:=by simp at hi; omega
 exact⟨b,0,rfl,hB,(Gl h),by simp[World.cell?,h]⟩
theorem sM{b:Bx}{p:Sl->Prop}(h1:p b.s1)(h2:p b.s2)(h3:p b.s3)(h4:p b.s4)(k:Int):p (b.get k):=by
 unfold Bx.get
 split
 .exact h1
 split
 .exact h2
 split
 .exact h3
 .exact h4
theorem yZ{w:World}{b:Nat}{x:Int}{T:TypeId}(h:w.heap[b]?=some (.cells #[.int .i64 x] T (0,0))):Ints w.heap.size w (some ⟨b,0,none⟩) [x]:=by
 intro i hi
 obtain rfl:i=0:=by simp at hi; omega
 exact⟨b,0,rfl,(Gl h),by simp[World.cell?,h]⟩
theorem rZ{w:World}{b:Nat}{x:Int}{T:TypeId}(h:w.heap[b]?=some (.cells #[.int .i64 x] T (0,0))):Sl.ok ⟨some ⟨b,0,none⟩,[x],1⟩ w:=⟨yZ h,by simp,by simp⟩
theorem oS(w:World):Calls Tryz.prog 69 #[] w (wW w):=by
 go_enter Tryz.func69,Tryz.ntmps69
 go_wp2;refine wp_loop_rounds 5 ?_;rw[rounds_succ];go_wp2;rw[rounds_succ];go_wp2;rw[rounds_succ];go_wp2;rw[rounds_succ];go_wp2;rw[rounds_succ];go_wp2;refine bodyPost_ret (v:=.agg #[.slice (some ⟨w.heap.size+1+1,0,none⟩) 1 1,.slice (some ⟨w.heap.size+1+1+1,0,none⟩) 1 1,.slice (some ⟨w.heap.size+1+1+1+1,0,none⟩) 1 1,.slice (some ⟨w.heap.size+1+1+1+1+1,0,none⟩) 1 1]) (by simp[results,Tryz.results69,go_sem]) rfl ?_;refine⟨⟨⟨_,[4],1⟩,⟨_,[4],1⟩,⟨_,[4],1⟩,⟨_,[4],1⟩⟩,rfl,⟨rZ (T:=3) ?_,rZ (T:=3) ?_,rZ (T:=3) ?_,rZ (T:=3) ?_⟩,⟨rfl,rfl,rfl,rfl⟩,?_,sM (p:=λs:Sl=>fB w.heap.size _ s.a s.l) (sn (T:=3) (cU _ (cU _ (cU _ (at_end _ _ (by simp))))) (by omega)) (sn (T:=3) (cU _ (cU _ (at_end _ _ (by simp)))) (by omega)) (sn (T:=3) (cU _ (at_end _ _ (by simp))) (by omega)) (sn (T:=3) (at_end _ _ (by simp)) (by omega))⟩
 .exact cU _ (cU _ (cU _ (at_end _ _ (by simp))))
 .exact cU _ (cU _ (at_end _ _ (by simp)))
 .exact cU _ (at_end _ _ (by simp))
 .exact at_end _ _ (by simp)
 .exact((((((Below.refl _ _).alloc (Nat.le_refl _) _).alloc (by simp) _).alloc (by simp; omega) _).alloc (by simp; omega) _).alloc (by simp; omega) _).alloc (by simp; omega) _
