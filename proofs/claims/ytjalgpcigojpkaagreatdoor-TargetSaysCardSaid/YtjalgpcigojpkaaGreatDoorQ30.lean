import Derived.Test.YtjalgpcigojpkaaGreatDoorQ29
set_option maxRecDepth 99999
set_option maxHeartbeats 99999999
namespace Go.Proofs.YtjalgpcigojpkaaGreatDoor
section
open Go.RowKit Go.Sort
def fH(w:World)(T:Nat)(b:Bx):World:=(((w.setCell ⟨T,79,none⟩ b.s1.v).setCell ⟨T,80,none⟩ b.s2.v).setCell ⟨T,81,none⟩ b.s3.v).setCell ⟨T,82,none⟩ b.s4.v
theorem dL{X:Nat->Prop}(w:World){T:Nat}(hT:X T)(b:Bx):ac X w (fH w T b) :=
 ((((ac.refl X w).setCell (p:=⟨T,79,none⟩) hT _).setCell (p:=⟨T,80,none⟩) hT _).setCell (p:=⟨T,81,none⟩) hT _).setCell (p:=⟨T,82,none⟩) hT _
theorem fA.setBox{X:Nat->Prop}{w0 w:World}{T:Nat}{m:Tm}{t:Tg}(h:fA X w0 w T m t)(b:Bx)(bl:Bl)(hb:∀k,ni (m.bx X T) w (b.get k) (bl.get k)):fA X w0 (fH w T b) T { m with b:=b } { t with b:=bl }:=by
 have kp:=dL (X:=(·=T)) w rfl b;have e1:=iz h.blk h.ok 0 b.s1.v (m':={ m with b:={ m.b with s1:=b.s1 } }) (t':=t) rfl rfl rfl;have e2:=iz e1 h.ok 1 b.s2.v (m':={ m with b:={ m.b with s1:=b.s1,s2:=b.s2 } }) (t':=t) rfl rfl rfl;have e3:=iz e2 h.ok 2 b.s3.v (m':={ m with b:={ m.b with s1:=b.s1,s2:=b.s2,s3:=b.s3 } }) (t':=t) rfl rfl rfl;have e4:=iz e3 h.ok 3 b.s4.v (m':={ m with b:=b }) (t':={ t with b:=bl }) rfl rfl rfl
 have nT:∀ {b es cl},w.heap[b]?=some (.map es cl)->b≠T:=fun {b es cl} hm e=>by subst e; rw[h.blk]at hm; cases hm
 have mv:∀ {b:Nat} {l:List (Int × Value)},df w b l->df (fH w T _) b l:=fun {b l} hm=>by obtain⟨es,cl,h1,h2⟩:=hm;exact⟨es,cl,(kp.block b (nT h1) (Gl h1)).trans h1,h2⟩
 refine⟨e4,h.ok,h.xt,h.xw,h.xn,h.wn,λk=>?_,mv h.wait,h.wl,λi h1 h2=>?_,h.apart,?_,h.xf,mv h.done⟩
 .refine⟨λi hi=>?_,(hb k).len,(hb k).cap,(hb k).eq⟩;obtain⟨c,o,e,hx,lB,hc⟩:=(hb k).ints i hi;exact⟨c,o,e,hx,Nat.lt_of_lt_of_le lB kp.size,(kp.cell hx.2.1 lB).trans hc⟩
 .obtain⟨g1,g2,g3,g4⟩:=h.have' i h1 h2;exact⟨g1,g2,g3,mv g4⟩
 .refine aV h.fly (λc e=>?_);obtain⟨-,cur,hc⟩:=dW h e;refine kp.block c (λq=>?_) (Gl hc);subst q;rw[h.blk]at hc;have e7:(106:Nat)=124:=congrArg (λo:Option Obj=>match o with | some (.cells _ ty _)=>ty | _=>0) hc;exact absurd e7 (by decide)
theorem bR.newBox{w0 w w1:World}{n D T:Nat}{t:Tg}{Y:Nat->Prop}(h:bR w0 n D T t Y w)(b1:Below w.heap.size w w1)(b:Bx)(bl:Bl)(hb:b.ok w1)(hl:∀k,(b.get k).l=bl.get k)(hh:∀k,fB w.heap.size w1 (b.get k).a (b.get k).l) : cV w0 w n D T { t with b:=bl } Y (fH w1 T b):=by
 have bo:∀k,(b.get k).ok w1:=λk=>sM (p:=λs:Sl=>s.ok w1) hb.o1 hb.o2 hb.o3 hb.o4 k;have hy1:=h;obtain⟨X,m,ki,tb,lo,hy⟩:=h
 have hT:=(Gl tb.blk)
 have k1:=ki.all b1;have tb1:=(tb.same (ki.same_of b1) (ki.over b1).lt).mono (Y:=λc=>X c\/(w.heap.size<=c/\c<w1.heap.size)) (λc e=>.inl e)
 have lo1:∀c,(X c\/(w.heap.size<=c/\c<w1.heap.size))->w0.heap.size<=c:=λc e=>by
  rcases e with e | e
  .exact lo c e
  .exact Nat.le_trans ki.below.size e.1
 have tb2:=tb1.setBox b bl (λk=>⟨(hh k).intsX (λc h1 h2=>⟨.inr ⟨h1,h2⟩,by omega,λo e=>by have:=ki.lt c (tb.xf c o e); omega⟩),(bo k).len,(bo k).cap,hl k⟩);have Of:(λc=>X c\/(w.heap.size<=c/\c<w1.heap.size)) T:=.inl tb.xt
 exact⟨⟨_,{ m with b:=b },k1.set (dL w1 Of b) lo1,tb2,lo1,λc e=>⟨.inl (hy c e).1,λho=>by
   have hc:=ki.lt c (hy c e).1
   rcases ho with ho | ho | ho | ho | ho | ⟨k,o,e',hn⟩
   .exact(hy c e).2 (.inl ho)
   .exact(hy c e).2 (.inr (.inl ho))
   .exact(hy c e).2 (.inr (.inr (.inl ho)))
   .exact(hy c e).2 (.inr (.inr (.inr (.inl ho))))
   .exact(hy c e).2 (.inr (.inr (.inr (.inr (.inl ho)))))
   .obtain⟨b',o',a1,a2,-⟩:=hh k 0 (List.length_pos_iff.2 hn);have e2:(b.get k).a=some ⟨c,o,none⟩:=e';rw[e2]at a1;cases a1
    omega⟩⟩,
  λc hc=>((dL (X:=(·=T)) w1 rfl b).block c (λe=>(hy c hc).2 (.inl e)) ((ki.over b1).lt c (hy c hc).1)).trans (b1.block c (ki.lt c (hy c hc).1)),(ac.of_below b1).trans (dL (X:=(·=T)) w1 rfl b)⟩
section
variable (w0 w:World) (n D T:Nat) (t:Tg) (Y:Nat->Prop)
theorem vh(h:bR w0 n D T t Y w)(hn:GO n t)(tt:Tabs w0) : Calls Tryz.prog 20 #[.pointer (some ⟨T,0,none⟩)] w λe w'=>e=.returned (bg (t.power n).2)/\bR w0 n D T (t.power n).1 Y w'/\Same Y w w':=by
 have HH:=Hx h;have HN:=Hx hn;have TT:=Hx tt
 have ST:∃X m,KI n w0 X D m.K t.k w/\fA X w0 w T m t:=by obtain⟨X,m,ki,tb,-⟩:=h;exact⟨X,m,ki,tb⟩
 obtain⟨X,m,ki,tb⟩:=ST;have c0:=(aG tb.blk tb.ok).1.1
 have hT:=(Gl tb.blk)
 have ST:=Hx (nE n w0 w X D m.K t.k ki (by have:=hn.kg.kd.place.k.g.regs_len; omega));have PW0:=Hs (t.power n=if (t.next n t.k.s.lost).2≠0 then t.next n t.k.s.lost else({ (t.next n t.k.s.lost).1 with b:=Bl.pow },0)) rfl;obtain⟨r,hr⟩:=Nm (t.power n);rw[hr]at PW0 ⊢;clear h hn tt ki tb hr;go_enter Tryz.func20,Tryz.ntmps20
 go_wp2_with fail;refine ST.out.mono ?_;rintro e w2 ⟨a2,c2,rfl,hs,b2,fr⟩;have B2:=Hx b2;have S2:=Hx hs;have FR:=Hx fr;clear hs b2 fr ST;obtain⟨s,hsd⟩:=Nm t.k.s;rw[hsd]at S2 ⊢;have HS:=Hx hsd;clear hsd;obtain⟨g,l,ty,ho,st⟩:=s;unfold dh;dsimp only;cases st
 .go_upto_region 5 with fail;obtain⟨w3,Ip⟩:=Nn (w2.alloc (.cells #[.int .i64 0,.slice none 0 0,.int .i64 0,.int .i64 0,.bool false] 34));have B3:=Hs (Below w.heap.size w w3) (Ip▸B2.out.trans ((ay w2 _).mono B2.out.size));have Z3:=Hs (w2.heap.size<=w3.heap.size) (Ip▸(ay w2 _).size);have S3:=Hs (bj w3 St.zero none) (⟨by simp[St.zero],bE.nil _ _ _⟩);have R3:=Hs (w3.heap[w2.heap.size]?=some (.cells #[.int .i64 0,.slice none 0 0,.int .i64 0,.int .i64 0,.bool false] 34 (0,0))) (Ip▸heap_alloc_new w2 _);have LS:=Hs (t.k.s.lost=St.zero) (by rw[HS.out]; rfl);rw[<-Ip];clear Ip;have NX:=Hx (next_any w0 w3 n D T t _ St.zero none 0 (HH.out.more B3.out) HN.out S3.out (λb o e _=>by cases e) TT.out);have PW:=PW0;clear PW0;rw[LS.out]at PW;obtain⟨x,hx⟩:=Nm (t.next n St.zero);rw[hx]at PW NX;clear hx;obtain⟨⟨r0,r1,r2,r3,r4⟩,-⟩:=cells5 R3.out;go_wp2_with fail;refine NX.out.mono ?_;rintro e w4 ⟨rfl,h4,sm4,-⟩;have H4:=Hx (h4.less (λb hb=>Or.inl hb):bR w0 n D T x.1 Y w4);have SM:=Hs (Same Y w w4) (λb hb=>(sm4 b (.inl hb)).trans (B3.out.block b (HH.out.lt_y b hb)));clear h4 sm4 NX r0 r1 r2 r3 r4;by_cases hz:x.2=0
  .have PW1:=Hx (PW.out.trans (if_neg (λh=>h hz)));rw[hz,aH];clear hz PW;have POW:=Hx (oS w4);obtain⟨X4,m4,ki4,tb4,-⟩:=H4.out;go_wp2_with fail;refine POW.out.mono ?_;rintro e w5 ⟨bx,rfl,bok,bl,b5,hh⟩;have TB5:=Hx (tb4.same (ki4.same_of b5) (ki4.over b5).lt);obtain⟨⟨-,y1,y2,y3,y4,-⟩,-,z1,z2,z3,z4,-⟩:=aG TB5.out.blk TB5.out.ok
   have hT5:=(Gl TB5.out.blk)
   have P:=Hx (H4.out.newBox b5 bx Bl.pow bok (λk=>by
    unfold Bx.get Bl.get Bl.pow
    split
    .exact bl.1
    split
    .exact bl.2.1
    split
    .exact bl.2.2.1
    .exact bl.2.2.2) hh)
   clear ki4 tb4 bok bl b5 hh POW;unfold fH at P;go_wp2;go_ret;rw[PW1.out];exact⟨rfl,P.out.1,SM.out.trans P.out.2.1⟩
  .have PW1:=Hx (PW.out.trans (if_pos hz));rw[aK hz];have HZ:=Hx hz;clear hz PW;go_wp2;go_ret;rw[PW1.out];exact⟨by rw[aK HZ.out]; rfl,H4.out,SM.out⟩
 .go_upto_region 5 with fail;obtain⟨w3,Ip⟩:=Nn (w2.alloc (.cells #[.int .i64 0,.slice a2 l.length c2,.int .i64 ty,.int .i64 ho,.bool true] 34));have B3:=Hs (Below w.heap.size w w3) (Ip▸B2.out.trans ((ay w2 _).mono B2.out.size));have Z3:=Hs (w2.heap.size<=w3.heap.size) (Ip▸(ay w2 _).size);have S3:=Hs (bj w3 ⟨0,l,ty,ho,true⟩ a2) (Ip▸(show bj w2 ⟨0,l,ty,ho,true⟩ a2 from⟨S2.out.len,S2.out.rep⟩).below (ay w2 _));have R3:=Hs (w3.heap[w2.heap.size]?=some (.cells #[.int .i64 0,.slice a2 l.length c2,.int .i64 ty,.int .i64 ho,.bool true] 34 (0,0))) (Ip▸heap_alloc_new w2 _);have LS:=Hs (t.k.s.lost=⟨0,l,ty,ho,true⟩) (by rw[HS.out]; rfl);rw[<-Ip];clear Ip;have NX:=Hx (next_any w0 w3 n D T t _ ⟨0,l,ty,ho,true⟩ a2 c2 (HH.out.more B3.out) HN.out S3.out (λb o e Ik=>Or.inr ⟨FR.out b o e,Nat.lt_of_lt_of_le (bj.blt (s:=⟨g,l,ty,ho,true⟩) (o:=o) (by rw[<-e]; exact S2.out) Ik) Z3.out⟩) TT.out);have PW:=PW0;clear PW0;rw[LS.out]at PW;obtain⟨x,hx⟩:=Nm (t.next n ⟨0,l,ty,ho,true⟩);rw[hx]at PW NX;clear hx;obtain⟨⟨r0,r1,r2,r3,r4⟩,-⟩:=cells5 R3.out;go_wp2_with fail;refine NX.out.mono ?_;rintro e w4 ⟨rfl,h4,sm4,-⟩;have H4:=Hx (h4.less (λb hb=>Or.inl hb):bR w0 n D T x.1 Y w4);have SM:=Hs (Same Y w w4) (λb hb=>(sm4 b (.inl hb)).trans (B3.out.block b (HH.out.lt_y b hb)));clear h4 sm4 NX r0 r1 r2 r3 r4;by_cases hz:x.2=0
  .have PW1:=Hx (PW.out.trans (if_neg (λh=>h hz)));rw[hz,aH];clear hz PW;have POW:=Hx (oS w4);obtain⟨X4,m4,ki4,tb4,-⟩:=H4.out;go_wp2_with fail;refine POW.out.mono ?_;rintro e w5 ⟨bx,rfl,bok,bl,b5,hh⟩;have TB5:=Hx (tb4.same (ki4.same_of b5) (ki4.over b5).lt);obtain⟨⟨-,y1,y2,y3,y4,-⟩,-,z1,z2,z3,z4,-⟩:=aG TB5.out.blk TB5.out.ok
   have hT5:=(Gl TB5.out.blk)
   have P:=Hx (H4.out.newBox b5 bx Bl.pow bok (λk=>by
    unfold Bx.get Bl.get Bl.pow
    split
    .exact bl.1
    split
    .exact bl.2.1
    split
    .exact bl.2.2.1
    .exact bl.2.2.2) hh)
   clear ki4 tb4 bok bl b5 hh POW;unfold fH at P;go_wp2;go_ret;rw[PW1.out];exact⟨rfl,P.out.1,SM.out.trans P.out.2.1⟩
  .have PW1:=Hx (PW.out.trans (if_pos hz));rw[aK hz];have HZ:=Hx hz;clear hz PW;go_wp2;go_ret;rw[PW1.out];exact⟨by rw[aK HZ.out]; rfl,H4.out,SM.out⟩
end
def GP (n:Nat)(w0:World)(D:Nat)(d:Dk)(Y:Nat->Prop)(w:World):Prop :=
 ∃S,cX S w 152 197 D n d/\(∀b,S b->b<w.heap.size)/\(∀b,S b->w0.heap.size<=b)/\Below w0.heap.size w0 w/\∀b,Y b->b<w.heap.size/\¬ S b
theorem KI.dki{n:Nat}{w0 w:World}{X Y:Nat->Prop}{D K:Nat}{k:Kp}(h:KI n w0 X D K k w)(hy:∀b,Y b->X b):GP n w0 D k.d Y w:=by obtain⟨S,a,cap,kr,lo,kb,bl,hx,ax⟩:=h;exact⟨S,kr.dk,kr.lt,lo,bl,λb e=>⟨(hx b (hy b e)).1,(hx b (hy b e)).2.1⟩⟩
theorem Gt(n:Nat)(w0 w:World)(D:Nat)(d:Dk)(Y:Nat->Prop)(num ep:Int)(s:St)(h:GP n w0 D d Y w)(hk:KD n d num ep s)(sz:Sz d)(t:Tabs w0) : Calls Tryz.prog 71 #[.pointer (some ⟨D,0,none⟩)] w λe w'=>∃K,e=.returned (.tuple #[.pointer (some ⟨K,0,none⟩),.nilIface])/\KI n w0 Y D K ⟨d,num,ep,s⟩ w'/\Below w.heap.size w w':=by
 obtain⟨S,dk,lt,lo,bl,hy⟩:=h;refine(D7 S w D n d num ep s dk lt hk sz (t.on bl)).mono ?_;rintro e w' ⟨K,a,cap,rfl,kr,hK,b,fr⟩;exact⟨K,rfl,⟨S,a,cap,kr,lo,Nat.le_trans bl.size hK,bl.trans (b.mono bl.size),λc hc=>⟨Nat.lt_of_lt_of_le (hy c hc).1 b.size,(hy c hc).2,by have:=(hy c hc).1; omega⟩,λc o e _ hX=>by have:=(hy c hX).1; have:=fr c o e; omega⟩,b⟩
def Bx.zero:Bx:=⟨⟨none,[],0⟩,⟨none,[],0⟩,⟨none,[],0⟩,⟨none,[],0⟩⟩
theorem CX(K W N:Nat)(k:Kp)(g:Gp)(hg:g.ok):Tryz.prog.built 106 [(0,.pointer (some ⟨K,0,none⟩)),(1,.agg g.arr),(5,.map (some W)),(7,.map (some N))]=some (cY ⟨K,W,N,Bx.zero,none,0,[]⟩ (Tg.start k g)).toArray:=by
 obtain⟨r3,u3,c8⟩:=hg;obtain⟨r,u⟩:=g;dsimp only at r3 u3 c8
 have l3:∀ {α:Type} (l:List α),l.length=3->∃a b c,l=[a,b,c]:=λl h=>by
  match l,h with
  | [a,b,c],_=>exact⟨a,b,c,rfl⟩
 obtain⟨r1,r2,r4,rfl⟩:=l3 r r3;obtain⟨b1,b2,b3,rfl⟩:=l3 u u3;obtain⟨f,d0,d1,d2,d3,d4,d5,d6,d7,rfl⟩:=oK (c8 r1 (by simp));obtain⟨f',e0,e1,e2,e3,e4,e5,e6,e7,rfl⟩:=oK (c8 r2 (by simp));obtain⟨f'',g0,g1,g2,g3,g4,g5,g6,g7,rfl⟩:=oK (c8 r4 (by simp));clear c8 r3 u3 l3;show Tryz.prog.built 106 _=some _
 kernel_rfl
section
variable (w0 w:World) (n D:Nat) (d:Dk) (Y:Nat->Prop)
def nO(w0 w:World)(n D:Nat)(Y:Nat->Prop)(r:Tg × Int)(e:Ending)(w':World):Prop :=
 (r.2=0->∃T,e=.returned (.tuple #[.pointer (some ⟨T,0,none⟩),.nilIface])/\bR w0 n D T r.1 Y w'/\Same Y w w'/\w.heap.size<=T)/\(r.2≠0->e=.returned (.tuple #[.pointer none,bg r.2]))
theorem tB(num ep:Int)(s:St)(g:Gp)(h:GP n w0 D d Y w)(hk:KD n d num ep s)(sz:Sz d)(hg:g.ok)(hnum:num+2<1000000000000000)(tt:Tabs w0)(NQ:∀b,Y b->w0.heap.size<=b) : Calls Tryz.prog 22 #[.pointer (some ⟨D,0,none⟩),.agg g.arr] w λe w'=>nO w0 w n D Y (Tg.new n ⟨d,num,ep,s⟩ g) e w'/\(((Tg.start ⟨d,num,ep,s⟩ g).isReady=false\/ep=1000000)->Below w.heap.size w w'):=by
 have HK:=Hx hk;have SZ:=Hx sz;have HG:=Hx hg;have TT:=Hx tt;have HNUM:=Hx hnum;have ZG:=Hx (Gp.size hg)
 have HY:=Hs (∀b,Y b->b<w.heap.size) (by
  obtain⟨S,_,_,_,_,hy⟩:=h
  exact λb hb=>(hy b hb).1)
 obtain⟨w1,pX⟩:=Nn (w.alloc (.cells g.arr 69));have B1:=Hs (Below w.heap.size w w1) (pX▸ay w _);have R1:=Hs (w1.heap[w.heap.size]?=some (.cells g.arr 69 (0,0))) (pX▸heap_alloc_new w _)
 have D1:=Hs (GP n w0 D d Y w1) (by
  obtain⟨S,dk,lt,lo,bl,hy⟩:=h
  exact⟨S,dk.below B1.out,λb e=>Nat.lt_of_lt_of_le (lt b e) B1.out.size,lo,bl.trans (B1.out.mono bl.size),λb e=>⟨Nat.lt_of_lt_of_le (hy b e).1 B1.out.size,(hy b e).2⟩⟩)
 have OPEN:=Hx (Gt n w0 w1 D d Y num ep s D1.out hk sz tt);obtain⟨k,J7⟩:=Nm (⟨d,num,ep,s⟩:Kp);have KF:=Hs (KG n k/\k.num=num/\k.ep=ep/\k.s=s) (by rw[<-J7]; exact⟨⟨hk,sz⟩,rfl,rfl,rfl⟩);rw[J7]at OPEN ⊢;obtain⟨r,hr⟩:=Nm (Tg.new n k g);have NW0:=Hs (r=(Tg.start k g).next n k.s) (hr▸rfl);rw[hr];obtain⟨t0,LX⟩:=Nm (Tg.start k g);rw[LX]at NW0 ⊢;have HT0:=Hx LX;clear J7 hr LX h hk sz hg tt hnum;have NM:=@run_makeMap Tryz.prog;go_enter Tryz.func22,Tryz.ntmps22
 go_upto_region 1 with fail;rw[<-pX];clear pX;go_wp2_with fail;refine OPEN.out.mono ?_;rintro e w2 ⟨K,rfl,ki,b2⟩;have K2:=Hx ki;have B2:=Hs (Below w.heap.size w w2) (B1.out.trans (b2.mono B1.out.size));have R2:=Hx ((b2.block w.heap.size (Gl R1.out)).trans R1.out);have BT:=Hx (λW N=>CX K W N k g HG.out);clear ki b2 OPEN;go_upto_region 5 with (first|((with_reducible refine bU rfl 69 _ rfl ?_); refine⟨w.heap.size,_,g.arr,_,rfl,R2.out,aj.1,rfl,by rw[aj.2,ZG.out],?_⟩)|((with_reducible refine wT rfl 106 _ rfl ?_); refine⟨_,_,rfl,BT.out _ _,?_⟩));obtain⟨m0,hm0⟩:=Nm (⟨K,w2.heap.size,w2.heap.size+1,Bx.zero,none,0,[]⟩:Tm);have M0:=Hs (m0.K=K/\m0.W=w2.heap.size/\m0.N=w2.heap.size+1/\m0.b=Bx.zero/\m0.fa=none/\m0.fc=0/\m0.hm=[]) (by rw[<-hm0]; exact⟨rfl,rfl,rfl,rfl,rfl,rfl,rfl⟩);have LX:=HT0.out;have T0:=Hs (t0.k=k/\t0.g=g/\t0.b=Bl.zero/\t0.wait=[]/\t0.fly=[]/\t0.done=[]) (by rw[<-LX]; exact⟨rfl,rfl,rfl,rfl,rfl,rfl⟩);rw[hm0,LX];obtain⟨w4,Iq⟩:=Nn (((w2.alloc (.map #[] 0)).alloc (.map #[] 0)).alloc (.cells (cY m0 t0).toArray 106))
 have z4:w4.heap.size=w2.heap.size+3:=by rw[Iq]; simp
 have B4:=Hs (Below w2.heap.size w2 w4) (Iq▸((((Below.refl _ w2).alloc (Nat.le_refl _) _).alloc (by simp) _).alloc (by simp; omega) _))
 have TB4:=Hs (fA (λc=>Y c\/(w2.heap.size<=c/\c<w4.heap.size)) w0 w4 (w2.heap.size+1+1) m0 t0) (by
  obtain⟨h1,h2,h3,h4,h5,h6,h7⟩:=M0.out;obtain⟨g1,g2,g3,g5,g6,g7⟩:=T0.out;have im:∀(w:World) (o:Obj) b,df w b []->df (w.alloc o) b []:=λw o b h=>h.move (Below.heap_alloc _ _ _ h.lt);have e1:df w4 w2.heap.size []:=Iq▸im _ _ _ (im _ _ _ (df.new w2))
  have e2:df w4 (w2.heap.size+1) []:=by have:=im _ (.cells (cY m0 t0).toArray 106) _ (df.new (w2.alloc (.map #[] 0)));rw[show(w2.alloc (.map #[] 0)).heap.size=w2.heap.size+1 by simp]at this;exact Iq▸this
  refine⟨?_,by rw[g2]; exact HG.out,.inr (by omega),by rw[h2]; exact .inr (by omega),by rw[h3]; exact .inr (by omega),by rw[h2,h3]; omega,λq=>?_,by rw[h2,h7,g5]; exact e1,by rw[h7,g5]; rfl,λi q=>absurd q (by rw[h7]; simp),by rw[h7]; exact List.Pairwise.nil,?_,λb o q=>(by rw[h5]at q; cases q),by rw[h3,g7]; exact e2⟩
  .have:=heap_alloc_new ((w2.alloc (.map #[] 0)).alloc (.map #[] 0)) (.cells (cY m0 t0).toArray 106);rw[show((w2.alloc (.map #[] 0)).alloc (.map #[] 0)).heap.size=w2.heap.size+1+1 by simp]at this;rw[Iq];exact this
  .have hz:m0.b.get q=⟨none,[],0⟩:=by rw[h4]; unfold Bx.get Bx.zero; split<;>(try split)<;>(try split)<;>rfl
   have hl:t0.b.get q=[]:=by rw[g3]; unfold Bl.get Bl.zero; split<;>(try split)<;>(try split)<;>rfl
   rw[hz,hl];exact⟨λi hi=>absurd hi (by simp),by simp,by simp,rfl⟩
  .rw[h5,h6,g6]
   exact⟨rfl,.inl ⟨rfl,rfl⟩⟩)
 have H4:=Hs (bR w0 n D (w2.heap.size+1+1) t0 Y w4) (  ⟨_,m0,by rw[M0.out.1,T0.out.1]; exact K2.out.all B4.out,TB4.out,λc e=>by
   rcases e with e | e
   .exact NQ c e
   .exact Nat.le_trans K2.out.below.size e.1,λc e=>⟨.inl e,λho=>by
   have hc:=HY.out c e;have hz:=B2.out.size;obtain⟨h1,h2,h3,h4,h5,h6,h7⟩:=M0.out
   rcases ho with ho | ho | ho | ho | ⟨o,ho⟩ | ⟨k,o,ho,hn⟩
   .omega
   .omega
   .omega
   .rw[h7]at ho; cases ho
   .rw[h5]at ho; cases ho
   .exact hn (by rw[h4]; unfold Bx.get Bx.zero; split<;>(try split)<;>(try split)<;>rfl)⟩⟩)
 have B24:=Hs (Below w.heap.size w w4) (B2.out.trans (B4.out.mono B2.out.size));rw[<-Iq];have ST:=Hx (nE n w0 w4 _ D K k (K2.out.all B4.out) (by have:=KF.out.1.kd.place.k.g.regs_len; omega));clear Iq z4 hm0 LX TB4 BT R2 B4 R1 D1 B1 NM;go_wp2_with fail;refine ST.out.mono ?_;rintro e w5 ⟨a5,c5,rfl,hs5,b5,fr5⟩;have B5:=Hx b5;have NX:=Hx (next_any w0 w5 n D (w2.heap.size+1+1) t0 _ k.s a5 c5 (H4.out.more b5) ⟨by rw[T0.out.1]; exact KF.out.1,by rw[T0.out.2.1]; exact HG.out,by rw[T0.out.1,KF.out.2.1]; exact HNUM.out⟩ hs5 (λb o q Ik=>Or.inr ⟨fr5 b o q,bj.blt (o:=o) (q▸hs5) Ik⟩) TT.out);have HT:=Hs (w.heap.size<=w2.heap.size+1+1) (by have:=B2.out.size; omega);clear hs5 b5 fr5 ST K2;rw[<-NW0.out]at NX;go_wp2_with fail;refine NX.out.mono ?_;rintro e w6 ⟨rfl,h6,sm6,kp6⟩;have H6:=Hs (bR w0 n D (w2.heap.size+1+1) r.1 Y w6) (h6.less (λb hb=>.inl hb));have SM:=Hs (Same Y w w6) (λb hb=>(sm6 b (.inl hb)).trans ((B5.out.block b (Nat.lt_of_lt_of_le (HY.out b hb) B24.out.size)).trans (B24.out.block b (HY.out b hb))))
 have BB:=Hs ((t0.isReady=false\/ep=1000000)->Below w.heap.size w w6) (λhq=>by
  have hq2:t0.isReady=false\/t0.k.ep=1000000:=hq.imp id (λq=>by rw[T0.out.1,KF.out.2.2.1]; exact q);have b3:Below w.heap.size w w5:=B24.out.trans (B5.out.mono B24.out.size)
  exact b3.trans ((kp6 hq2).below b3.size (λc q=>by rw[q]; exact HT.out)))
 clear h6 sm6 kp6 NX;by_cases hz:r.2=0
 .rw[hz,aH];have HZ:=Hx hz;clear hz;go_wp2;exact bodyPost_ret (v:=.tuple #[.pointer (some ⟨w2.heap.size+1+1,0,none⟩),.nilIface]) (by simp[results,Tryz.results22,go_sem]) rfl ⟨⟨λ_=>⟨_,rfl,H6.out,SM.out,HT.out⟩,λh=>absurd HZ.out h⟩,BB.out⟩
 .rw[aK hz];have HZ:=Hx hz;clear hz;go_wp2;exact bodyPost_ret (v:=.tuple #[.pointer none,.iface 108 (.int .i64 r.2)]) (by simp[results,Tryz.results22,go_sem]) rfl ⟨⟨λh=>absurd h HZ.out,λ_=>by rw[aK HZ.out]⟩,BB.out⟩
end
theorem dj(l:List Ms):(cq l).length=l.length*6:=by
 induction l with
 | nil=>rfl
 | cons m l ih=>simp[cq,Ms.row]at ih ⊢; omega
theorem mT(l k:List Ms):cq (l ++ k)=cq l ++ cq k:=by simp[cq]
theorem jv(l:List Ms):∀u∈cq l,u.oneCell'=true:=by
 intro u hu;simp only[cq,List.mem_flatMap,Ms.row,List.mem_cons,List.mem_nil_iff,or_false]at hu
 obtain⟨m,_,h | h | h | h | h | h⟩:=hu<;>subst h<;>rfl
theorem qY(l:List Ms)(i:Nat):(cq l).take (i*6)=cq (l.take i):=by
 induction l generalizing i with
 | nil=>simp[cq]
 | cons m l ih =>
  cases i with
  | zero=>simp[cq]
  | succ i =>
   have:=ih i;simp only[cq,List.flatMap_cons,List.take_succ_cons]at this ⊢;rw[show(i+1)*6=m.row.length+i*6 by simp[Ms.row]; omega,List.take_length_add_append,this]
theorem ir(l:List Ms)(i:Nat):(cq l).drop (i*6)=cq (l.drop i):=by
 induction l generalizing i with
 | nil=>simp[cq]
 | cons m l ih =>
  cases i with
  | zero=>simp[cq]
  | succ i =>
   have:=ih i;simp only[cq,List.flatMap_cons,List.drop_succ_cons]at this ⊢;rw[show(i+1)*6=m.row.length+i*6 by simp[Ms.row]; omega,List.drop_length_add_append,this]
theorem pv(l:List Ms)(i:Nat):cq (l.eraseIdx i)=(cq l).take (i*6) ++ (cq l).drop ((i+1)*6):=by rw[qY,ir,<-mT,List.eraseIdx_eq_take_drop_succ]
theorem Tryz.infoMsg:(Tryz.prog.info? 124).map (λi=>(i.zero,i.size,i.bytes))=some (some (.agg #[.int .i64 0,.int .i64 0,.int .i64 0,.int .i64 0,.string ⟨#[]⟩,.int .i64 0]),6,56):=by kernel_rfl
abbrev dC(B:Nat)(w:World)(v:Value)(l:List Ms):Prop:=w.ownsRow B 124 6 v l.length (cq l)
theorem dC.cells{B:Nat}{w:World}{g o n c:Nat}{sp:Option Nat}{l:List Ms}(h:dC B w (.slice (some ⟨g,o,sp⟩) n c) l):∀j u,(cq l)[j]?=some u->w.cell? ((⟨g,o,sp⟩:Addr).add j)=some u:=by
 obtain⟨h1,h2 | ⟨g',cap,cur,e1,e2,e3,e4,e5,e6,e7⟩⟩:=h
 .cases h2.1
 .cases e1
  intro j u hj;rw[Addr.add_mid,cell_of_row _ _ _ _ _ _ e3,Nat.zero_add];rw[<-e7]at hj;rw[List.getElem?_take]at hj
  split at hj
  .simpa using hj
  .cases hj
theorem mC(B:Nat)(l:List Ms)(a:Option Addr)(cap:Nat)(w:World)(hl:l.length<=1000)(h:dC B w (.slice a l.length cap) l) : Calls Tryz.prog 61 #[.slice a l.length cap] w λe w'=>∃v,e=.returned v/\dC w.heap.size w' v l/\Below w.heap.size w w':=by
 have hq:=λw=>Lib.run_eql_slice_nil (P:=Tryz.prog) w 76 124 a l.length cap 0 0 Tryz.underlying76;obtain⟨i0,hi,Ij,Ii,Im⟩:=info_parts Tryz.infoMsg
 cases a with
 | none =>
  have hz:l=[]:=by
   obtain⟨-,h2 | ⟨g,c,cur,e,-⟩⟩:=h
   .exact List.length_eq_zero_iff.1 h2.2
   .cases e
  subst hz;simp only[List.length_nil,Option.isNone_none]at hq ⊢;clear hi Ij Ii Im h hl;go_enter Tryz.func61,Tryz.ntmps61
  go_wp2;go_ret;exact⟨_,rfl,⟨rfl,.inl ⟨rfl,rfl⟩⟩,Below.refl _ _⟩
 | some ad =>
  obtain⟨g,o,sp⟩:=ad
  have IA:∀j u,(cq l)[j]?=some u->(w.alloc (.cells #[] 124)).cell? ((⟨g,o,sp⟩:Addr).add j)=some u:=by intro j u hj;have hc:=dC.cells h j u hj;exact(World.cell?_alloc_some w _ _ (by rw[hc]; rfl)).trans hc
  have ec:(w.alloc (.cells #[] 124)).ownsRow w.heap.size 124 6 (.slice (some ⟨w.heap.size,0,none⟩) 0 0) 0 [] :=
   ⟨rfl,.inr ⟨w.heap.size,0,#[],rfl,Nat.le_refl _,heap_alloc_new _ _,Nat.le_refl _,by simp[maxLen],rfl,rfl⟩⟩
  clear h;go_enter Tryz.func61,Tryz.ntmps61
  go_wp2_with (at_builtin; refine wpList_append_own _ rfl _ _ 76 rfl w.heap.size 124 i0 (.agg #[.int .i64 0,.int .i64 0,.int .i64 0,.int .i64 0,.string ⟨#[]⟩,.int .i64 0]) 6 56 Tryz.underlying76 hi Ij Ii Im rfl (by decide) _ _ _ rfl ec ⟨g,o,sp⟩ l.length cap (cq l) rfl (dj l) IA (jv l) ?c3 ?c4 ?c5 ?_)
  case c3=>unfold maxLen; omega
  case c4=>omega
  case c5=>simp
  intro v' w1 jZ Il _;go_wp2;go_ret;refine⟨_,rfl,?_,?_⟩
  .simpa[dC] using jZ
  .exact(ay w _).grown Il (by simp) (λk hk=>by simp[Value.ownBlock]at hk; omega)
def gC:List Value:=[.int .i64 0,.int .i64 0,.int .i64 0,.int .i64 0,.string ⟨#[]⟩,.int .i64 0]
theorem oP:∀(vs a b c:List Value),b.length=vs.length->eK (a ++ b ++ c) a.length vs=a ++ vs ++ c:=by intro vs a b c h;have e1:=iK vs a (b ++ c) 0;have e2:=ij vs b c 0 (by omega);rw[oQ h]at e2;rw[Nat.add_zero,e2]at e1;rw[List.append_assoc,e1,List.append_assoc]
theorem yx(l vs:List Value)(k:Nat)(h:k+vs.length<=l.length):(eK l k vs).take (k+vs.length)=l.take k ++ vs:=by
 have e:l=l.take k ++ (l.drop k).take vs.length ++ (l.drop k).drop vs.length:=by rw[List.append_assoc,List.take_append_drop,List.take_append_drop]
 have hk:(l.take k).length=k:=by simp; omega
 have e2:=oP vs (l.take k) ((l.drop k).take vs.length) ((l.drop k).drop vs.length) (by simp; omega);rw[<-e,hk]at e2;rw[e2,List.take_left' (by simp; omega)]
theorem rR(l vs:List Value)(k m:Nat)(h:k+vs.length<=l.length)(hm:m<=k):(eK l k vs).take m=l.take m:=by
 have e:l=l.take k ++ (l.drop k).take vs.length ++ (l.drop k).drop vs.length:=by rw[List.append_assoc,List.take_append_drop,List.take_append_drop]
 have hk:(l.take k).length=k:=by simp; omega
 have e2:=oP vs (l.take k) ((l.drop k).take vs.length) ((l.drop k).drop vs.length) (by simp; omega);rw[<-e,hk]at e2;rw[e2,List.append_assoc,List.take_append_of_le_length (by omega),List.take_take,Nat.min_eq_left hm]
theorem pU(w:World)(g o c:Nat)(ty:TypeId)(hc:∀j,j<6->(w.cell? ⟨g,o+j,none⟩).isSome=true)(hf:∀j,j<6->w.frozen? ⟨g,o+j,none⟩=false) : (Builtin.clear_ #[76] ty #[.slice (some ⟨g,o,none⟩) 1 c]).run Tryz.prog w=.ok (.tuple #[]) (w.setCells g o gC):=by
 have hv:∀w,(zeroValue 124).run Tryz.prog w=.ok (.agg gC.toArray) w:=λw=>by kernel_rfl
 have I7:=run_storeCells_cells (P:=Tryz.prog) g o gC 0 w (by simpa[gC] using hc) (by simpa[gC] using hf) (λv hv'=>by
  simp only[gC,List.mem_cons,List.mem_nil_iff,or_false]at hv'
  rcases hv' with h | h | h | h | h | h<;>subst h<;>rfl)
 simp only[Nat.add_zero]at I7
 have hz:(Builtin.zeroCells gC.toArray 1).toList=gC:=by kernel_rfl
 simp[Builtin.clear_,run_underlying Tryz.underlying76,hv,Value.cells,hz,I7]
theorem pG(B:Nat)(l:List Ms)(a:Option Addr)(cap i j:Nat)(w:World)(hl:l.length<=1000)(h:dC B w (.slice a l.length cap) l)(hi:i<l.length)(hj:j=i+1) : Calls Tryz.prog 60 #[.slice a l.length cap,.int .i64 i,.int .i64 j] w λe w'=>∃g,a=some ⟨g,0,none⟩/\B<=g/\g<w.heap.size/\e=.returned (.slice (some ⟨g,0,none⟩) (l.length - 1) cap)/\dC B w' (.slice (some ⟨g,0,none⟩) (l.eraseIdx i).length cap) (l.eraseIdx i)/\ac (·=g) w w':=by
 obtain⟨i0,Ni,Ij,Ii,Im⟩:=info_parts Tryz.infoMsg;obtain⟨-,h2 | ⟨g,cap',cur,e1,hBg,hg,hnc,MY,Iu,Lp⟩⟩:=h
 .omega
 obtain⟨rfl,rfl⟩:a=some ⟨g,0,none⟩/\cap=cap':=by simpa using e1
 have LI:g<w.heap.size:=(Gl hg)
 have hlen:(cq l).length=l.length*6:=dj l;obtain⟨news,IA⟩:=Nn (cq (l.drop j))
 have nlen:news.length=(l.length - j)*6:=by rw[IA,dj]; simp
 have cat:∀k,k<l.length*6->w.cell? ⟨g,k,none⟩=(cq l)[k]?:=λk hk=>by rw[cell_of_row _ _ _ _ _ _ hg,<-Lp,List.getElem?_take,if_pos hk];simp
 have isome:∀k,k<cap*6->(w.cell? ⟨g,k,none⟩).isSome=true:=λk hk=>by rw[cell_of_row _ _ _ _ _ _ hg];simp; omega
 have frz:∀k,w.frozen? ⟨g,k,none⟩=false:=λk=>by simp[World.frozen?,hg]
 obtain⟨A,hA,MN⟩:∃A:Addr,(if cap=j then some (⟨g,0,none⟩:Addr) else some ⟨g,j*6,none⟩)=some A/\Hid (∀t u,news[t]?=some u->w.drew.cell? (A.add t)=some u):=by
  by_cases hcj:cap=j
  .refine⟨⟨g,0,none⟩,by simp[hcj],λt u hu=>?_⟩
   have h0:news.length=0:=by rw[nlen]; omega
   rw[List.length_eq_zero_iff.1 h0]at hu;simp at hu
  .refine⟨⟨g,j*6,none⟩,by simp[hcj],λt u hu=>?_⟩
   have ht:t<(l.length - j)*6:=by
    have:=(List.getElem?_eq_some_iff.1 hu).1
    rwa [nlen]at this
   rw[Addr.add_lit];show w.cell? ⟨g,j*6+t,none⟩=some u;rw[cat _ (by omega),<-hu,IA,<-ir,List.getElem?_drop]
 have s1:Hid (news.length=(l.length - j)*6):=nlen
 have s2:Hid (∀u∈news,u.oneCell'=true):=by rw[IA];exact jv _
 have s3:Hid (∀t,t<news.length->(w.drew.cell? ⟨g,0+i*6+t,none⟩).isSome=true/\w.drew.frozen? ⟨g,0+i*6+t,none⟩=false):=by intro t ht;rw[nlen]at ht;exact⟨isome (0+i*6+t) (by omega),frz _⟩
 obtain⟨W1,JS⟩:=Nn (w.drew.setCells g (0+i*6) news)
 have HB1:W1.heap[g]?=some (.cells (eK cur.toList (i*6) news).toArray 124 (0,0)):=by rw[JS,Nat.zero_add];exact cd news (i*6) w.drew cur hg
 have KP1:ac (·=g) w W1:=by rw[JS];exact ac.setCells (S:=(·=g)) rfl news _ w w.drew (ac.refl _ _).drew
 have Lq:(eK cur.toList (i*6) news).length=cap*6:=by rw[jl]; simpa using Iu
 have hcl:∀ty,(Builtin.clear_ #[76] ty #[.slice (some ⟨g,(i+(l.length - j))*6,none⟩) (l.length - (i+(l.length - j))) (cap - (i+(l.length - j)))]).run Tryz.prog W1=.ok (.tuple #[]) (W1.setCells g ((i+(l.length - j))*6) gC):=λty=>by
  rw[show l.length - (i+(l.length - j))=1 by omega]
  exact pU W1 g _ _ ty (λk hk=>by
   rw[cell_of_row _ _ _ _ _ _ HB1]
   simp[Lq]; omega) (λk _=>by simp[World.frozen?,HB1])
 obtain⟨W2,hW2⟩:=Nn (W1.setCells g ((i+(l.length - j))*6) gC)
 have P:=Hs (dC B W2 (.slice (some ⟨g,0,none⟩) (l.eraseIdx i).length cap) (l.eraseIdx i)/\ac (·=g) w W2) (by
  have hel:(l.eraseIdx i).length=l.length - 1:=by rw[List.length_eraseIdx,if_pos hi]
  refine⟨⟨by rw[dj],.inr ⟨g,cap,_,rfl,hBg,(hW2▸cd gC _ W1 _ HB1),by omega,MY,by simp[jl,Lq],?_⟩⟩,hW2▸ac.setCells (S:=(·=g)) rfl gC _ w W1 KP1⟩;have z6:gC.length=6:=rfl;rw[show(i+(l.length - j))*6=(l.eraseIdx i).length*6 by rw[hel]; omega];show(eK (eK cur.toList (i*6) news) ((l.eraseIdx i).length*6) gC).take _=_
  rw[rR _ _ _ _ (by rw[Lq,z6,hel]; omega) (Nat.le_refl _),hel,show(l.length - 1)*6=i*6+news.length by rw[nlen]; omega,yx _ _ _ (by rw[nlen]; simp[Iu]; omega),pv,IA,<-ir,<-hj,<-Lp,List.take_take,Nat.min_eq_left (by omega)])
 have hW:Hid (W1=w.drew.setCells g (0+i*6) news):=JS;have HW2:=Hx hW2;have HA:=hA
 have hic:i<=cap:=by omega
 have hjc:j<=cap:=by omega
 have Ln:((i:Int) == (j:Int))=false:=by simp; omega
 have hij2:i<=j:=by omega
 have hcn:¬ cap=i+(l.length - j):=by omega
 have J8:j<=l.length:=by omega
 clear JS hW2 HB1 KP1 Lq isome frz cat Lp Iu e1 hg nlen IA hlen HA;unfold maxLen at MY;have HJ:=Hx hj;clear hj;go_enter Tryz.func60,Tryz.ntmps60
 go_wp2_with fail
 go_region_law (refine step_append_room rfl (.tmp 22) (.tmp 25) 76 rfl 124 i0 6 Tryz.underlying76 Ni Ii g 0 i cap (by simp[Act.eval,Act.put]) A (l.length - j) (cap - j) news (by simp[Act.eval,Act.put]) s1.out MN.out s2.out (by have:=HJ.out; omega) s3.out ?_; rw[<-hW.out])
 go_wp2;rw[<-HW2.out];go_ret;exact⟨g,rfl,hBg,LI,by rw[show l.length - 1=i+(l.length - j) by have:=HJ.out; omega]; rfl,P.out.1,P.out.2⟩
theorem dC.mono{B C:Nat}{w:World}{v:Value}{l:List Ms}(h:dC B w v l)(hc:C<=B):dC C w v l:=by
 obtain⟨h1,h2 | ⟨g,cap,cur,e1,e2,e3⟩⟩:=h
 .exact⟨h1,.inl h2⟩
 .exact⟨h1,.inr ⟨g,cap,cur,e1,Nat.le_trans hc e2,e3⟩⟩
theorem fA.reFly{X X':Nat->Prop}{w0 w w1:World}{T:Nat}{m:Tm}{t:Tg}(h:fA X w0 w T m t)(kp0:ac (λb=>∃o,m.fa=some ⟨b,o,none⟩) w w1)(hX:∀b,X b->X' b)(fa:Option Addr)(fc:Nat)(l:List Ms)(hf:dC w0.heap.size w1 (.slice fa l.length fc) l)
  (hx:∀b o,fa=some ⟨b,o,none⟩->X' b/\b≠T/\(¬ X b\/∃o',m.fa=some ⟨b,o',none⟩)) :
  fA X' w0 (w1.setCell ⟨T,86,none⟩ (.slice fa l.length fc)) T { m with fa:=fa,fc:=fc } { t with fly:=l }:=by
 have own:∀ {b o},m.fa=some ⟨b,o,none⟩->∃cur,w.heap[b]?=some (.cells cur 124 (0,0)):=fun {b o} e=>by
  obtain⟨-,h2 | ⟨g,cap,cur,e1,_,e3,_⟩⟩:=h.fly
  .rw[e]at h2; cases h2.1
  .rw[e]at e1;simp only[Value.slice.injEq,Option.some.injEq,Addr.mk.injEq]at e1;obtain⟨⟨rfl,_,_⟩,_⟩:=e1;exact⟨cur,e3⟩
 have nF:∀ {b es cl},w.heap[b]?=some (.map es cl)->¬ ∃o,m.fa=some ⟨b,o,none⟩:=fun {b es cl} hm ⟨o,e⟩=>by obtain⟨cur,hc⟩:=own e;rw[hm]at hc; cases hc
 have tF:¬ ∃o,m.fa=some ⟨T,o,none⟩:=λ⟨o,e⟩=>by obtain⟨cur,hc⟩:=own e;rw[h.blk]at hc;have e7:(106:Nat)=124:=congrArg (λo:Option Obj=>match o with | some (.cells _ ty _)=>ty | _=>0) hc;exact absurd e7 (by decide)
 have hT:=(Gl h.blk)
 have wC:=(kp0.block T tF hT).trans h.blk;have kp:ac (·=T) w1 (w1.setCell ⟨T,86,none⟩ (.slice fa l.length fc)):=(ac.refl (·=T) w1).setCell (p:=⟨T,86,none⟩) rfl _;have e1:=iz wC h.ok 7 (.slice fa l.length fc) (m':={ m with fa:=fa,fc:=fc }) (t':={ t with fly:=l }) rfl rfl rfl
 have nT:∀ {b es cl},w.heap[b]?=some (.map es cl)->b≠T:=fun {b es cl} hm e=>by subst e; rw[h.blk]at hm; cases hm
 have mv:∀ {b:Nat} {l:List (Int × Value)},df w b l->df (w1.setCell ⟨T,86,none⟩ _) b l:=fun {b l} hm=>by
  obtain⟨es,cl,h1,h2⟩:=hm
  have hl:=(Gl h1)
  exact⟨es,cl,((kp.block b (nT h1) (Nat.lt_of_lt_of_le hl kp0.size)).trans (kp0.block b (nF h1) hl)).trans h1,h2⟩
 refine⟨e1,h.ok,hX _ h.xt,hX _ h.xw,hX _ h.xn,h.wn,λk=>?_,mv h.wait,h.wl,λi h1 h2=>?_,h.apart,?_,λb o e=>(hx b o e).1,mv h.done⟩
 .refine⟨λi hi=>?_,(h.box k).len,(h.box k).cap,(h.box k).eq⟩;obtain⟨c,o,e,Jq,lB,hc⟩:=(h.box k).ints i hi;have hcF:¬ ∃o,m.fa=some ⟨c,o,none⟩:=λ⟨o,e⟩=>Jq.2.2 o e;refine⟨c,o,e,⟨hX _ Jq.1,Jq.2.1,λo' e'=>?_⟩,Nat.lt_of_lt_of_le (Nat.lt_of_lt_of_le lB kp0.size) kp.size,((kp.cell Jq.2.1 (Nat.lt_of_lt_of_le lB kp0.size)).trans (kp0.cell hcF lB)).trans hc⟩
  rcases (hx c o' e').2.2 with q | q
  .exact q Jq.1
  .exact hcF q
 .obtain⟨g1,g2,g3,g4⟩:=h.have' i h1 h2;exact⟨hX _ g1,g2,g3,mv g4⟩
 .refine aV hf (λc e=>?_)
  have hc:∃o,fa=some ⟨c,o,none⟩/\c<w1.heap.size:=by
   obtain⟨-,h2 | ⟨g,cap,cur,e1,e2,e3,-⟩⟩:=hf
   .rw[h2.1]at e; cases e
   .rw[e1]at e
    have:g=c:=by simpa[Value.ownBlock] using e
    subst this;simp only[Value.slice.injEq]at e1;exact⟨0,e1.1,(Gl e3)⟩
  obtain⟨o,e2,lB⟩:=hc;exact kp.block c (hx c o e2).2.1 lB
theorem bR.newFly{w0 w w1:World}{n D T:Nat}{t:Tg}{Y:Nat->Prop}(h:bR w0 n D T t Y w)(b1:Below w.heap.size w w1)(g cap:Nat)(l:List Ms)(hg:w.heap.size<=g)(ho:dC w.heap.size w1 (.slice (some ⟨g,0,none⟩) l.length cap) l) : cV w0 w n D T { t with fly:=l } Y (w1.setCell ⟨T,86,none⟩ (.slice (some ⟨g,0,none⟩) l.length cap)):=by
 obtain⟨X,m,ki,tb,lo,hy⟩:=h
 have hT:=(Gl tb.blk)
 have hgl:g<w1.heap.size:=by
  obtain⟨-,h2 | ⟨g',cap',cur,e1,e2,e3,-⟩⟩:=ho
  .cases h2.1
  .cases e1
   exact(Gl e3)
 have k1:=ki.all b1
 have lo1:∀c,(X c\/(w.heap.size<=c/\c<w1.heap.size))->w0.heap.size<=c:=λc e=>by
  rcases e with e | e
  .exact lo c e
  .exact Nat.le_trans ki.below.size e.1
 have tb2:=tb.reFly (X':=λc=>X c\/(w.heap.size<=c/\c<w1.heap.size)) (ac.of_below b1) (λc e=>.inl e) (some ⟨g,0,none⟩) cap l (ho.mono ki.below.size) (λb o e=>by
  cases e
  exact⟨.inr ⟨hg,hgl⟩,by omega,.inl (λhX=>by have:=ki.lt _ hX; omega)⟩)
 have kpX:∀ {S:Nat->Prop},S T->ac S w1 (w1.setCell ⟨T,86,none⟩ (.slice (some ⟨g,0,none⟩) l.length cap)):=fun {S} hS=>(ac.refl S w1).setCell (p:=⟨T,86,none⟩) hS _;have Of:(λc=>X c\/(w.heap.size<=c/\c<w1.heap.size)) T:=.inl tb.xt
 refine⟨⟨_,{ m with fa:=some ⟨g,0,none⟩,fc:=cap },k1.set (kpX Of) lo1,tb2,lo1,λc e=>⟨.inl (hy c e).1,λho=>?_⟩⟩,
  λc hc=>((kpX (S:=(·=T)) rfl).block c (λe=>(hy c hc).2 (.inl e)) ((ki.over b1).lt c (hy c hc).1)).trans (b1.block c (ki.lt c (hy c hc).1)),(ac.of_below b1).trans (kpX (S:=(·=T)) rfl)⟩
 have hc:=ki.lt c (hy c e).1
 rcases ho with ho | ho | ho | ho | ⟨o,ho⟩ | ho
 .exact(hy c e).2 (.inl ho)
 .exact(hy c e).2 (.inr (.inl ho))
 .exact(hy c e).2 (.inr (.inr (.inl ho)))
 .exact(hy c e).2 (.inr (.inr (.inr (.inl ho))))
 .cases ho
  omega
 .exact(hy c e).2 (.inr (.inr (.inr (.inr (.inr ho)))))
section
variable (w0 w:World) (n D T:Nat) (t:Tg) (Y:Nat->Prop)
theorem tD(h:bR w0 n D T t Y w)(hl:t.fly.length<=1000) : Calls Tryz.prog 29 #[.pointer (some ⟨T,0,none⟩)] w λe w'=>∃v,e=.returned v/\dC w.heap.size w' v t.fly/\Below w.heap.size w w':=by
 obtain⟨X,m,ki,tb,lo,hy⟩:=h;have c0:=(aG tb.blk tb.ok).1.2.2.2.2.2.2.2.2.1
 have hT:=(Gl tb.blk)
 have CL:=Hx (mC w0.heap.size t.fly m.fa m.fc w hl tb.fly);clear ki tb lo hy;go_enter Tryz.func29,Tryz.ntmps29
 go_wp2_with fail;refine CL.out.mono ?_;rintro e w1 ⟨v,rfl,h1,b1⟩;go_wp2;go_ret;exact⟨v,rfl,h1,b1⟩
theorem yg(i:Int)(h:bR w0 n D T t Y w)(hl:t.fly.length<=1000) : Calls Tryz.prog 14 #[.pointer (some ⟨T,0,none⟩),.int .i64 i] w λe w'=>e=.returned (bg (t.lose i).2)/\cV w0 w n D T (t.lose i).1 Y w':=by
 have HH:=Hx h;obtain⟨X,m,ki,tb,lo,hy⟩:=h;have c0:=(aG tb.blk tb.ok).1.2.2.2.2.2.2.2.2.1
 have hT:=(Gl tb.blk)
 have f0:=(aG tb.blk tb.ok).2.2.2.2.2.2.2.2.2.1;have CL:=Hx (mC w0.heap.size t.fly m.fa m.fc w hl tb.fly);have CT:=Hx (λw' (b:Below w.heap.size w w')=>(aG ((b.block T hT).trans tb.blk) tb.ok).2.2.2.2.2.2.2.2.2.1);have CC:=Hx (λw' (b:Below w.heap.size w w')=>(b.cell (p:=⟨T,86,none⟩) hT).trans c0);clear ki tb lo hy;by_cases h1:i<0\/(t.fly.length:Int)<=i
 .have E:=Hs (t.lose i=(t,8)) (by unfold Tg.lose; rw[if_pos h1]);rw[E.out]
  rcases h1 with h1 | h1
  .go_enter Tryz.func14,Tryz.ntmps14
   go_wp2;go_ret;exact⟨rfl,.refl HH.out⟩
  .have h2:¬ i<0:=by omega
   go_enter Tryz.func14,Tryz.ntmps14
   go_wp2;go_ret;exact⟨rfl,.refl HH.out⟩
 .obtain⟨k,rfl⟩:∃k:Nat,i=k:=⟨i.toNat,by omega⟩
  have E:=Hs (t.lose k=({ t with fly:=t.fly.eraseIdx k },0)) (by unfold Tg.lose; rw[if_neg h1,Int.toNat_natCast]);rw[E.out]
  have hk:k<t.fly.length:=by omega
  have q1:¬ (k:Int)<0:=by omega
  have q2:¬ (t.fly.length:Int)<=(k:Int):=by omega
  have q3:IntKind.i64.wrap ((k:Int)+1)=((k+1:Nat):Int):=by rw[IntWalk.i64_in _ (by omega)]; omega
  obtain⟨j,hj⟩:=Nm (k+1);rw[hj]at q3;have HJ:=Hx hj.symm;clear h1 hj E;go_enter Tryz.func14,Tryz.ntmps14
  go_wp2_with fail;refine CL.out.mono ?_;rintro e w1 ⟨v,rfl,o1,b1⟩
  have hv:∃a cap,v=.slice a t.fly.length cap:=by
   obtain⟨-,h2 | ⟨g,cap,cur,e1,-⟩⟩:=o1
   .exact absurd h2.2 (by omega)
   .exact⟨_,_,e1⟩
  obtain⟨a,cap,rfl⟩:=hv;have DEL:=Hx (pG w.heap.size t.fly a cap k j w1 hl o1 hk HJ.out);have B1:=Hx b1;clear b1 o1 CL;go_wp2_with fail;refine DEL.out.mono ?_;rintro e w2 ⟨g,-,hg,hgl,rfl,o2,k2⟩;have B2:=Hs (Below w.heap.size w w2) (B1.out.trans (k2.below B1.out.size (λc q=>by rw[q]; exact hg)));have LE:=Hs ((t.fly.eraseIdx k).length=t.fly.length - 1) (by rw[List.length_eraseIdx,if_pos hk]);have P:=Hx (HH.out.newFly B2.out g cap (t.fly.eraseIdx k) hg o2);rw[LE.out]at P;have f2:=CT.out w2 B2.out;have c2:=CC.out w2 B2.out;clear o2 k2 DEL;go_wp2;go_ret;exact⟨rfl,P.out⟩
end
