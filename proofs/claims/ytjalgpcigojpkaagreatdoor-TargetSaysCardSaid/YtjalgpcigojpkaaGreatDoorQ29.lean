import Derived.Test.YtjalgpcigojpkaaGreatDoorQ28
set_option maxRecDepth 99999
set_option maxHeartbeats 99999999
namespace Go.Proofs.YtjalgpcigojpkaaGreatDoor
section
open Go.RowKit Go.Sort
theorem fA.setG{X:Nat->Prop}{w0 w:World}{T:Nat}{m:Tm}{t:Tg}(h:fA X w0 w T m t){g:Gp}(hg:g.ok):fA X w0 (w.setCells T 1 g.arr.toList) T m { t with g:=g }/\ac (·=T) w (w.setCells T 1 g.arr.toList) :=
 have kp:ac (·=T) w (w.setCells T 1 g.arr.toList):=ac.setCells (S:=(·=T)) rfl _ _ _ _ (ac.refl _ _)
 ⟨h.turn kp (Du h.blk h.ok hg) hg rfl rfl rfl rfl,kp⟩
section
variable (w0 w:World) (n D T:Nat) (t:Tg) (Y:Nat->Prop)
theorem jH(h:bR w0 n D T t Y w)(he:0<=t.k.ep/\t.k.ep<=1000000)(J0:(t.g.fence t.k.ep).ok) : Calls Tryz.prog 47 #[.pointer (some ⟨T,0,none⟩)] w λe w'=>e=.returned (bg (if t.isReady then 0 else 7))/\bR w0 n D T t.ready Y w'/\ac (·=T) w w':=by
 obtain⟨X,m,ki,tb,lo,hy⟩:=h
 have LTT:=(Gl tb.blk)
 have ZG:=Hx (Gp.size tb.ok);have TB:=Hx tb;have KI0:=Hx ki;have LO:=Hx lo;have HY:=Hx hy;have RG:=Hx (λw' (h:Below w.heap.size w w')=>(show w'.rangeAt T 1 t.g.arr.toList from λj v hv=>(h.cell (p:=⟨T,1+j,none⟩) LTT).trans ((eF tb.blk tb.ok).1 j v hv)));have SC:=Hx (λw' (h:Below w.heap.size w w')=>(h.cell (p:=⟨T,0,none⟩) LTT).trans (aG tb.blk tb.ok).1.1);have EPO:=Hx (λw' (h:Below w.heap.size w w')=>gZ n w0 w' X D m.K t.k (ki.over h));have FEN:=Hx (λw'=>wm t.g t.k.ep w' tb.ok (by omega));have RDY:=Hs (t.isReady=decide (2<=((t.g.fence t.k.ep).mem t.k.ep).length)) rfl;have TRD:=Hs (t.ready={ t with g:=t.g.fence t.k.ep }) rfl;clear ki tb lo hy;obtain⟨FG,MA⟩:=Nm (t.g.fence t.k.ep);rw[MA]at FEN RDY TRD J0;obtain⟨BB,hBB⟩:=Nm (decide (2<=(FG.mem t.k.ep).length));rw[hBB]at FEN RDY;rw[RDY.out,TRD.out];have OKF:=Hx J0;have ZF:=Hx (Gp.size J0);clear MA hBB RDY TRD J0 he;go_enter Tryz.func47,Tryz.ntmps47
 go_upto_region 1 with fail;go_cut [3,4] (λv3 v4 wx=>∃V,v3=.pointer (some ⟨V,0,none⟩)/\v4=.bool BB/\w.heap.size<=V/\wx.heap[V]?=some (.cells FG.arr 69 (0,0))/\Below w.heap.size w wx)
 case first =>
  obtain⟨S,hS⟩:∃S:World->Prop,S=λw'=>Below w.heap.size w w':=⟨_,rfl⟩
  have S3:∀w',Below w.heap.size w w'->S w':=λw' h=>by rw[hS]; exact h
  have S4:∀w',S w'->Below w.heap.size w w':=λw' h=>by rw[hS]at h; exact h
  clear hS;refine wp_region_held_drew (S:=S) (by kernel_rfl) (S3 _ (Below.refl _ _).drew) (λdT=>?_);obtain⟨wd,IB⟩:=Nn w.drew;rw[<-IB]at dT ⊢;clear IB;refine wt 0 _ dT ?_;go_simp;refine wt 1 _ dT ?_;go_simp;refine wt 2 _ dT ?_;go_simp;refine wt 3 (.agg t.g.arr) dT ?_ (hy:=cD (by rfl) 69 _ rfl T 1 rfl t.g.arr _ (λw' h=>RG.out w' (S4 w' h)) aj.1 rfl (by rw[aj.2,ZG.out]));go_simp;refine wt 4 _ dT ?_;go_simp;refine wt 5 _ dT ?_;go_simp;refine wt 6 _ dT ?_;go_simp;refine wt 7 (.pointer (some ⟨m.K,0,none⟩)) dT ?_ (hy:=Or.inl ⟨by rfl,λw' sT=>by have hc:=SC.out w' (S4 w' sT); go_simp⟩);go_simp;refine DV 8 13 (λKx hK=>?_) (λKx hK=>?_)
  .go_simp;refine(EPO.out _ (S4 _ dT)).mono ?_;rintro e w1_ ⟨rfl,hq⟩;replace hq:=hq.symm;subst hq;have IW:=dT;refine hK.out _ _ IW (λIb=>?_);clear hK Kx IW;refine DV 9 13 (λKx hK=>?_) (λKx hK=>?_)
   .go_simp;refine(FEN.out _).mono ?_;rintro e w2_ ⟨rfl,b2⟩;have Je:=S3 _ ((S4 _ Ib).trans (b2.mono (S4 _ Ib).size));clear b2;refine hK.out _ _ Je (λIa=>?_);clear hK Kx Je;refine wt 10 _ Ia ?_;go_simp;refine wt 11 _ Ia ?_;go_simp;refine wt 12 _ Ia ?_;go_simp;refine eB 13 λKx hK=>?_;go_simp;obtain⟨w3_,Ip⟩:=Nn (w2_.alloc (.cells Tryz.zeroCells69 69));have HV3:=Hs (w3_.heap[w2_.heap.size]?=some (.cells Gp.zero.arr 69 (0,0))) (Ip▸aS▸heap_alloc_new _ _);have JD:=S3 _ (show Below w.heap.size w w3_ from Ip▸(S4 _ Ia).alloc (S4 _ Ia).size _);have HL3:w.heap.size<=w2_.heap.size:=(S4 _ Ia).size;rw[<-Ip];obtain⟨V3,hV3⟩:=Nm w2_.heap.size;rw[hV3]at HV3 HL3 ⊢;clear Ip hV3;refine hK.out _ _ JD (λID=>?_);clear hK Kx JD;refine eB 14 λKx hK=>?_;refine aJ rfl 69 _ _ rfl V3 FG.arr rfl rfl 69 Gp.zero.arr HV3.out (by rw[aj.2,ZF.out]) (by rw[ZF.out]; rfl) (Gp.one _) ?_;have HS4:=Hs ((World.setRow w3_ V3 FG.arr).heap[V3]?=some (.cells FG.arr 69 (0,0))) (setRow_heap _ _ _ _ _ _ HV3.out);have KV:=S3 _ (show Below w.heap.size w (World.setRow w3_ V3 FG.arr) from aN (S4 _ ID) HL3 _);refine hK.out _ _ KV (λJi=>?_);clear hK Kx KV;go_simp;refine eB 15 λKx hK=>?_;go_simp;have KU:=Ji;refine hK.out _ _ KU (λIM=>?_);clear hK Kx KU;refine wpAnyH_done (by kernel_rfl) ?_ _;go_wp2_with fail;go_meet;exact⟨V3,rfl,rfl,HL3,HS4.out,S4 _ IM⟩
   .go_simp;obtain⟨w6_,IP⟩:=Nn (wd.alloc (.cells Tryz.zeroCells69 69));have M5:=Hs (w6_.heap[wd.heap.size]?=some (.cells Gp.zero.arr 69 (0,0))) (IP▸aS▸heap_alloc_new _ _);have KT:=S3 _ (show Below w.heap.size w w6_ from IP▸(S4 _ Ib).alloc (S4 _ Ib).size _);have HL6:w.heap.size<=wd.heap.size:=(S4 _ Ib).size;rw[<-IP];obtain⟨V6,hV6⟩:=Nm wd.heap.size;rw[hV6]at M5 HL6 ⊢;clear IP hV6;refine hK.out _ _ KT (λIt=>?_);clear hK Kx KT;refine eB 9 λKx hK=>?_;go_simp;refine(FEN.out _).mono ?_;rintro e w7_ ⟨rfl,b7⟩;have KQ:=S3 _ ((S4 _ It).trans (b7.mono (S4 _ It).size));have HV7:=Hx ((b7.block _ (Gl M5.out)).trans M5.out);clear b7;refine hK.out _ _ KQ (λIC=>?_);clear hK Kx KQ;refine wt 10 _ IC ?_;go_simp;refine wt 11 _ IC ?_;go_simp;refine wt 12 _ IC ?_;go_simp;refine eB 14 λKx hK=>?_;refine aJ rfl 69 _ _ rfl V6 FG.arr rfl rfl 69 Gp.zero.arr HV7.out (by rw[aj.2,ZF.out]) (by rw[ZF.out]; rfl) (Gp.one _) ?_;have HS8:=Hs ((World.setRow w7_ V6 FG.arr).heap[V6]?=some (.cells FG.arr 69 (0,0))) (setRow_heap _ _ _ _ _ _ HV7.out);have KO:=S3 _ (show Below w.heap.size w (World.setRow w7_ V6 FG.arr) from aN (S4 _ IC) HL6 _);refine hK.out _ _ KO (λOh=>?_);clear hK Kx KO;go_simp;refine eB 15 λKx hK=>?_;go_simp;have HH9:=Oh;refine hK.out _ _ HH9 (λJU=>?_);clear hK Kx HH9;refine wpAnyH_done (by kernel_rfl) ?_ _;go_wp2_with fail;go_meet;exact⟨V6,rfl,rfl,HL6,HS8.out,S4 _ JU⟩
  .go_simp;obtain⟨w10_,I6⟩:=Nn (wd.alloc (.cells Tryz.zeroCells69 69));have LU:=Hs (w10_.heap[wd.heap.size]?=some (.cells Gp.zero.arr 69 (0,0))) (I6▸aS▸heap_alloc_new _ _);have Le:=S3 _ (show Below w.heap.size w w10_ from I6▸(S4 _ dT).alloc (S4 _ dT).size _);have LV:w.heap.size<=wd.heap.size:=(S4 _ dT).size;rw[<-I6];obtain⟨V10,Oe⟩:=Nm wd.heap.size;rw[Oe]at LU LV ⊢;clear I6 Oe;refine hK.out _ _ Le (λJV=>?_);clear hK Kx Le;refine eB 8 λKx hK=>?_;go_simp;refine(EPO.out _ (S4 _ JV)).mono ?_;rintro e w11_ ⟨rfl,hq⟩;replace hq:=hq.symm;subst hq;have Ld:=JV;refine hK.out _ _ Ld (λJw=>?_);clear hK Kx Ld;refine eB 9 λKx hK=>?_;go_simp;refine(FEN.out _).mono ?_;rintro e w12_ ⟨rfl,b12⟩;have Lc:=S3 _ ((S4 _ Jw).trans (b12.mono (S4 _ Jw).size));have Oj:=Hx ((b12.block _ (Gl LU.out)).trans LU.out);clear b12;refine hK.out _ _ Lc (λIV=>?_);clear hK Kx Lc;refine wt 10 _ IV ?_;go_simp;refine wt 11 _ IV ?_;go_simp;refine wt 12 _ IV ?_;go_simp;refine eB 14 λKx hK=>?_;refine aJ rfl 69 _ _ rfl V10 FG.arr rfl rfl 69 Gp.zero.arr Oj.out (by rw[aj.2,ZF.out]) (by rw[ZF.out]; rfl) (Gp.one _) ?_;have HS13:=Hs ((World.setRow w12_ V10 FG.arr).heap[V10]?=some (.cells FG.arr 69 (0,0))) (setRow_heap _ _ _ _ _ _ Oj.out);have La:=S3 _ (show Below w.heap.size w (World.setRow w12_ V10 FG.arr) from aN (S4 _ IV) LV _);refine hK.out _ _ La (λJv=>?_);clear hK Kx La;go_simp;refine eB 15 λKx hK=>?_;go_simp;have KY:=Jv;refine hK.out _ _ KY (λhHeld14=>?_);clear hK Kx KY;refine wpAnyH_done (by kernel_rfl) ?_ _;go_wp2_with fail;go_meet;exact⟨V10,rfl,rfl,LV,HS13.out,S4 _ hHeld14⟩
 case rest =>
  obtain⟨V,rfl,rfl,hV,hc,hb⟩:=hcut;have HC:=Hx hc;have T5:=Hx (TB.out.same (KI0.out.same_of hb) (KI0.out.over hb).lt);have K5:=Hx (KI0.out.over hb);have B5:=Hx hb;have TH:=Hs (wc.there T 1 FG.arr.size) (by rw[ZF.out]; exact(eF T5.out.blk T5.out.ok).2);clear hc hb hV FEN EPO RG SC TB KI0;go_upto_region 3 with (first|((with_reducible refine bU rfl 69 _ rfl ?_); refine⟨V,_,FG.arr,_,rfl,HC.out,aj.1,rfl,by rw[aj.2,ZF.out],?_⟩)|((with_reducible refine eZ rfl 69 _ _ rfl ?_); refine⟨T,1,FG.arr,rfl,rfl,TH.out,by rw[aj.2,ZF.out],Gp.one _,?_⟩));obtain⟨w6,IP⟩:=Nn (wc.setCells T 1 FG.arr.toList);rw[<-IP]
  have P:=Hs (bR w0 n D T { t with g:=FG } Y w6/\ac (·=T) w w6) (by
   have h2:=T5.out.setG OKF.out;rw[<-IP]at h2
   exact⟨⟨X,m,K5.out.set (h2.2.mono (λb e=>e▸T5.out.xt)) LO.out,h2.1,LO.out,HY.out⟩,(ac.of_below B5.out).trans h2.2⟩)
  clear IP T5 K5 B5 TH HC;cases BB
  .go_wp2;go_ret;exact⟨rfl,P.out⟩
  .go_wp2;go_ret;exact⟨rfl,P.out⟩
end
section
variable {X:Nat->Prop} {w0 w:World} {T:Nat} {m:Tm} {t:Tg}
def kK(w:World)(T:Nat):World:=(w.setCell ⟨T,83,none⟩ (.int .i64 0)).setCell ⟨T,85,none⟩ (.map (some w.heap.size))
def kJ(w:World)(T:Nat):World:=(kK w T).alloc (.map #[] 0)
theorem gU(w:World)(T:Nat):(kK w T).heap.size=w.heap.size:=by simp[kK,World.setCell]
theorem lP{X:Nat->Prop}(w:World){T:Nat}(hT:X T):ac X w (kK w T):=((ac.refl X w).setCell (p:=⟨T,83,none⟩) hT _).setCell (p:=⟨T,85,none⟩) hT _
theorem lO(w:World)(T:Nat):ac (·=T) w (kJ w T):=(lP (X:=(·=T)) w rfl).alloc _
theorem fA.fresh(h:fA X w0 w T m t):fA (λb=>X b\/b=w.heap.size) w0 (kJ w T) T { m with W:=w.heap.size,hm:=[] } t.fresh:=by
 have hT:=(Gl h.blk)
 have kp:=lO w T;have e2:=iz h.blk h.ok 4 (.int .i64 0) (m':=m) (t':={ t with num:=0 }) rfl rfl rfl;have e3:=iz e2 h.ok 6 (.map (some w.heap.size)) (m':={ m with W:=w.heap.size,hm:=[] }) (t':=t.fresh) rfl rfl rfl;replace e3:=(Below.heap_alloc (kK w T) (.map #[] 0) T (by rw[gU]; exact hT)).trans e3
 have hz:(kJ w T).heap.size=w.heap.size+1:=by unfold kJ; simp[gU]
 have hN:m.N<w.heap.size:=h.done.lt;have Ik:∀b,b≠T->b<w.heap.size->(kJ w T).heap[b]?=w.heap[b]?:=λb hb hl=>kp.block b hb hl;refine⟨e3,h.ok,.inl h.xt,.inr rfl,.inl h.xn,by show w.heap.size≠m.N; omega,λk=>?_,?_,rfl,λi h1=>absurd h1 (by simp),List.Pairwise.nil,?_,λb o e=>.inl (h.xf b o e),?_⟩
 .refine⟨λi hi=>?_,(h.box k).len,(h.box k).cap,(h.box k).eq⟩;obtain⟨b,o,e,hx,lB,hc⟩:=(h.box k).ints i hi;exact⟨b,o,e,⟨.inl hx.1,hx.2⟩,Nat.lt_of_lt_of_le lB kp.size,(kp.cell hx.2.1 lB).trans hc⟩
 .have:=df.new (kK w T);rw[gU]at this;exact this
 .refine aV h.fly (λb e=>?_);obtain⟨-,cur,hc⟩:=dW h e;refine Ik b (λq=>?_) (Gl hc);subst q;rw[h.blk]at hc;have e7:(106:Nat)=124:=congrArg (λo:Option Obj=>match o with | some (.cells _ ty _)=>ty | _=>0) hc;exact absurd e7 (by decide)
 .refine h.done.move (Ik _ (λq=>?_) hN);obtain⟨es,cl,h1,_⟩:=h.done;rw[q,h.blk]at h1;cases h1
end
theorem bR.same_y{w0 w w':World}{n D T:Nat}{t:Tg}{Y:Nat->Prop}(h:bR w0 n D T t Y w)(kp:ac (·=T) w w'):Same Y w w':=by obtain⟨X,m,ki,tb,lo,hy⟩:=h;intro b hb;exact kp.block b (λe=>(hy b hb).2 (.inl e)) (ki.lt b (hy b hb).1)
theorem bR.lt_y{w0 w:World}{n D T:Nat}{t:Tg}{Y:Nat->Prop}(h:bR w0 n D T t Y w):∀b,Y b->b<w.heap.size:=by obtain⟨X,m,ki,tb,lo,hy⟩:=h;intro b hb;exact ki.lt b (hy b hb).1
theorem bj.same{Y:Nat->Prop}{w w':World}{s:St}{a:Option Addr}(h:bj w s a)(sm:Same Y w w')(lt:∀b,Y b->b<w'.heap.size)(hs:∀b o,a=some ⟨b,o,none⟩->s.regs≠[]->Y b):bj w' s a:=by refine⟨h.len,λi hi=>?_⟩;obtain⟨b,o,rfl,hb,c1,c2⟩:=h.rep i hi;have hy:=hs b o rfl (λe=>by rw[e]at hi; simp at hi);have e:=sm b hy;exact⟨b,o,rfl,lt b hy,(World.cell?_of_block (w:=w) (a:=⟨b,_,none⟩) e).trans c1,(World.cell?_of_block (w:=w) (a:=⟨b,_,none⟩) e).trans c2⟩
theorem Same.trans{Y:Nat->Prop}{a b c:World}(h:Same Y a b)(k:Same Y b c):Same Y a c:=λx hx=>(k x hx).trans (h x hx)
theorem uN{w w':World}{b:Nat}{v0 v1 v2 v3 v4:Value}(e:w'.heap[b]?=w.heap[b]?)(h:w.cell? ⟨b,0,none⟩=some v0/\w.cell? ⟨b,1,none⟩=some v1/\w.cell? ⟨b,2,none⟩=some v2/\w.cell? ⟨b,3,none⟩=some v3/\w.cell? ⟨b,4,none⟩=some v4) : w'.cell? ⟨b,0,none⟩=some v0/\w'.cell? ⟨b,1,none⟩=some v1/\w'.cell? ⟨b,2,none⟩=some v2/\w'.cell? ⟨b,3,none⟩=some v3/\w'.cell? ⟨b,4,none⟩=some v4 :=
 ⟨(World.cell?_of_block (a:=⟨b,0,none⟩) e).trans h.1,(World.cell?_of_block (a:=⟨b,1,none⟩) e).trans h.2.1,(World.cell?_of_block (a:=⟨b,2,none⟩) e).trans h.2.2.1,(World.cell?_of_block (a:=⟨b,3,none⟩) e).trans h.2.2.2.1,(World.cell?_of_block (a:=⟨b,4,none⟩) e).trans h.2.2.2.2⟩
structure GO (n:Nat) (t:Tg):Prop where
 kg:KG n t.k
 ok:t.g.ok
 num:t.k.num+2<1000000000000000
theorem jR(b:Bool):bg (if b then 0 else 7)=if b then .nilIface else .iface 108 (.int .i64 7):=by cases b<;>rfl
section
variable (w0 w:World) (n D T:Nat) (t:Tg) (Y:Nat->Prop)
theorem next_any(s:St)(a:Option Addr)(cap:Nat)(h:bR w0 n D T t Y w)(hn:GO n t)(hr:bj w s a)(hs:∀b o,a=some ⟨b,o,none⟩->s.regs≠[]->Y b)(tt:Tabs w0) : Calls Tryz.prog 68 #[.pointer (some ⟨T,0,none⟩),dh s a cap] w λe w'=>e=.returned (bg (t.next n s).2)/\bR w0 n D T (t.next n s).1 Y w'/\Same Y w w'/\(t.isReady=false\/t.k.ep=1000000->ac (·=T) w w'):=by
 have HN:=Hx hn;have TT:=Hx tt;have EPB:=Hs (1<=t.k.ep/\t.k.ep<=1000000) (⟨hn.kg.kd.place.k.e0,hn.kg.kd.place.k.e1⟩);obtain⟨w1,pX⟩:=Nn (w.alloc (.cells #[.int .i64 s.gen,.slice a s.regs.length cap,.int .i64 s.typ,.int .i64 s.holder,.bool s.stays] 34));have B1:=Hs (Below w.heap.size w w1) (pX▸ay w _);have R1:=Hs (w1.heap[w.heap.size]?=some (.cells #[.int .i64 s.gen,.slice a s.regs.length cap,.int .i64 s.typ,.int .i64 s.holder,.bool s.stays] 34 (0,0))) (pX▸heap_alloc_new w _)
 obtain⟨Z,hZ⟩:∃Z:Nat->Prop,Z=λc=>Y c\/(w.heap.size<=c/\c<w1.heap.size):=⟨_,rfl⟩
 have H1:=Hs (bR w0 n D T t Z w1) (hZ▸h.more B1.out);have ZY:=Hs (∀b,Y b->Z b) (λb hb=>hZ▸Or.inl hb);have ZB:=Hs (Z w.heap.size) (hZ▸Or.inr ⟨Nat.le_refl _,by rw[pX]; simp⟩);have HS:=Hs (∀b o,a=some ⟨b,o,none⟩->s.regs≠[]->Z b) (λb o e hx=>hZ▸Or.inl (hs b o e hx));have S1:=Hs (bj w1 s a) (hr.below B1.out);have SY1:=Hs (Same Y w w1) (λb hb=>B1.out.block b (h.lt_y b hb));have RDY:=Hx (jH w0 w1 n D T t Z H1.out ⟨by have:=EPB.out; omega,EPB.out.2⟩ (Gp.fence_ok hn.ok _));clear h hn hr hs tt hZ
 have NX:=Hx (show t.next n s=if t.isReady=false then(t.ready,7) else if t.k.ep=1000000 then(t.ready,6) else if (t.ready.keep n (t.k.ep+1) t.k.s).2≠0 then t.ready.keep n (t.k.ep+1) t.k.s else
  if (t.ready.keep n (t.k.ep+1) t.k.s).1.fresh.isReady=false then((t.ready.keep n (t.k.ep+1) t.k.s).1.fresh.ready,7) else(t.ready.keep n (t.k.ep+1) t.k.s).1.fresh.ready.keep n (t.ready.keep n (t.k.ep+1) t.k.s).1.fresh.k.ep s from rfl)
 obtain⟨r,hrr⟩:=Nm (t.next n s);rw[hrr]at NX ⊢;clear hrr;have NM:=@run_makeMap Tryz.prog;go_enter Tryz.func68,Tryz.ntmps68
 go_upto_region 1 with fail;have Jf:=pX;rw[<-Jf];clear pX Jf;go_wp2_with fail;refine RDY.out.mono ?_;rintro e w2 ⟨rfl,h2,k2⟩;have H2:=Hx h2;have K2:=Hx k2;have SY2:=Hs (Same Y w w2) (SY1.out.trans (λb hb=>(H1.out.same_y k2) b (ZY.out b hb)));have SZ2:=Hs (Same Z w1 w2) (H1.out.same_y k2);clear h2 k2 RDY SY1;rw[jR];cases Jy:t.isReady
 .have NX1:=Hx (NX.out.trans (if_pos Jy));clear NX;simp only[Bool.false_eq_true,if_false];go_wp2;go_ret;rw[NX1.out];exact⟨rfl,H2.out.less ZY.out,SY2.out,λ_=>(ac.of_below B1.out).trans K2.out⟩
 have NX1:=Hx (NX.out.trans (if_neg (by rw[Jy]; decide)));clear NX;simp only[if_true];have TRK:t.ready.k=t.k:=rfl;obtain⟨X,m,ki,tb,lo,hy⟩:=H2.out;rw[TRK]at ki;have KI2:=Hx ki;have TB2:=Hx tb;have LO:=Hx lo;have HY:=Hx hy;have c0:=(aG tb.blk tb.ok).1.1
 have hT:=(Gl tb.blk)
 have EP:=Hx (gZ n w0 w2 X D m.K t.k ki);clear ki tb lo hy TRK;go_wp2_with fail;refine EP.out.mono ?_;rintro e w3 ⟨rfl,hq⟩;replace hq:=hq.symm;subst hq;clear EP;by_cases he:t.k.ep=1000000
 .have NX2:=Hx (NX1.out.trans (if_pos he));rw[he];clear NX1;go_wp2;go_ret;rw[NX2.out];exact⟨rfl,H2.out.less ZY.out,SY2.out,λ_=>(ac.of_below B1.out).trans K2.out⟩
 have NX2:=Hx (NX1.out.trans (if_neg he))
 have hq1:(t.k.ep == 1000000)=false:=by simpa using he
 have hq2:IntKind.i64.wrap (t.k.ep+1)=t.k.ep+1:=IntWalk.i64_in _ (by have:=EPB.out; omega);have EPN:=Hs (1<=t.k.ep+1/\t.k.ep+1<=1000000) (by have:=EPB.out; omega)
 have NOT:=Hs (¬ (t.isReady=false\/t.k.ep=1000000)) (λh=>by
  rcases h with h | h
  .rw[Jy]at h; cases h
  .exact he h)
 clear NX1 he Jy;obtain⟨r1,Jd⟩:=Nm (t.k.keep n (t.k.ep+1) t.k.s);have LAW:=Hx (BA HN.out.kg (by have:=HN.out.num; omega) EPN.out ((fq _).2 HN.out.kg.kd.place.k.g));rw[Jd]at LAW;have RK:=Hs (t.ready.keep n (t.k.ep+1) t.k.s=({ t.ready with k:=r1.1 },r1.2)) (by rw[<-Jd]; rfl);rw[RK.out]at NX2;go_upto_region 6 with fail;have C0:=Hs (w2.drew.cell? ⟨T,0,none⟩=some (.pointer (some ⟨m.K,0,none⟩))) c0;have EPD:=Hs (Calls Tryz.prog 66 #[.pointer (some ⟨m.K,0,none⟩)] w2.drew λe w'=>e=.returned (.int .i64 t.k.ep)/\w'=w2.drew) (gZ n w0 w2.drew X D m.K t.k KI2.out.drew);have STD:=Hx (nE n w0 w2.drew X D m.K t.k KI2.out.drew (by have:=HN.out.kg.kd.place.k.g.regs_len; omega))
 have KEEPA:=Hs (∀w4 a4 c4,Below w2.drew.heap.size w2.drew w4->bj w4 t.k.s a4->Hid (Calls Tryz.prog 88 #[.pointer (some ⟨m.K,0,none⟩),.int .i64 (t.k.ep+1),dh t.k.s a4 c4] w4 λe w'=>e=.returned (bg r1.2)/\KI n w0 X D m.K r1.1 w'/\Same X w4 w')) (λw4 a4 c4 b4 hs4=>by
  have q:=BE n w0 w4 X D m.K t.k a4 c4 (t.k.ep+1) t.k.s (KI2.out.drew.over b4) HN.out.kg.kd.ok (by rw[HN.out.kg.kd.wait]; simp) HN.out.kg.kd.n6 (by have:=HN.out.kg.kd.p1; omega) (by have:=HN.out.num; omega) hs4 TT.out;rw[Jd]at q
  exact Hx q)
 clear Jd
 go_region_held3 (λw'=>w'.cell? ⟨T,0,none⟩=some (.pointer (some ⟨m.K,0,none⟩)))
  (first|exact C0.out | assumption)
  (first|((with_reducible refine EPD.out.mono ?_); rintro e w3 ⟨rfl,rfl⟩)|((with_reducible refine STD.out.mono ?_); rintro e w4 ⟨a4,c4,rfl,hs4,b4,fr4⟩; have c4':=(b4.cell (p:=⟨T,0,none⟩) hT).trans C0.out; have KP:=KEEPA.out w4 a4 c4 b4 hs4)|((with_reducible refine KP.out.mono ?_); rintro e w5 ⟨rfl,ki5,sm5⟩; have c5':=(World.cell?_of_block (a:=⟨T,0,none⟩) (sm5 T TB2.out.xt)).trans c4'))
 have SX5:=Hs (Same X w2 w5) (λb hb=>(sm5 b hb).trans (b4.block b (KI2.out.lt b hb)));have T5:=Hx ((TB2.out.same SX5.out ki5.lt).setK r1.1);have KI5:=Hx ki5;have SZ5:=Hs (Same Z w1 w5) (SZ2.out.trans (λb hb=>SX5.out b (HY.out b hb).1));have SY5:=Hs (Same Y w w5) (SY2.out.trans (λb hb=>SX5.out b (HY.out b (ZY.out b hb)).1));clear ki5 sm5 b4 hs4 fr4 c4' c5' KEEPA KP STD EPD C0 SX5 SZ2 SY2 c0 hq2 RK
 rcases LAW.out with⟨e1,g1,e2,e3,e4⟩ | ⟨e1,-⟩
 case inr =>
  have NX3:=Hx (NX2.out.trans (if_pos (by rw[e1]; decide)));rw[e1,aK (by decide)];have E1:=Hx e1;clear e1 NX2;go_wp2;go_ret;rw[NX3.out];exact⟨by rw[E1.out]; rfl,⟨X,m,KI5.out,T5.out,LO.out,λb hb=>HY.out b (ZY.out b hb)⟩,SY5.out,λh=>absurd h NOT.out⟩
 have NX3:=Hx (NX2.out.trans (if_neg (λh=>h e1)));rw[e1,aH];have G1:=Hs (KG n r1.1/\r1.1.num=t.k.num+1/\r1.1.ep=t.k.ep+1) (⟨g1,e2,e3⟩);clear e1 g1 e2 e3 e4 NX2 LAW;obtain⟨⟨-,-,-,-,-,y3,y4,y5,y6,y7⟩,-,-,-,-,-,z3,z4,z5,z6,z7⟩:=aG T5.out.blk T5.out.ok
 have hT5:=(Gl T5.out.blk)
 go_upto_region 10 with fail;obtain⟨w6,IP⟩:=Nn (kJ w5 T);have hw6':=IP;unfold kJ kK at hw6';rw[<-hw6'];obtain⟨t2,ht2⟩:=Nm (({ t.ready with k:=r1.1 }:Tg).fresh)
 have H6:=Hs (bR w0 n D T t2 Z w6) (by
  have hb:=T5.out.fresh;rw[ht2,<-IP]at hb;have hk:=(KI5.out.set (lP w5 T5.out.xt) LO.out).more (.map #[] 0);rw[gU]at hk;replace hk:KI n w0 (λb=>X b\/b=w5.heap.size) D m.K r1.1 w6:=IP▸hk
  have hk2:t2.k=r1.1:=by rw[<-ht2]; rfl
  refine⟨_,_,by rw[hk2]; exact hk,hb,λb e=>?_,λb e=>⟨.inl (HY.out b e).1,λho=>?_⟩⟩
  .rcases e with e | e
   .exact LO.out b e
   .rw[e]; exact KI5.out.below.size
  .have lB:=KI5.out.lt b (HY.out b e).1
   rcases ho with ho | ho | ho | ho | ho
   .exact(HY.out b e).2 (.inl ho)
   .have:b=w5.heap.size:=ho;omega
   .exact(HY.out b e).2 (.inr (.inr (.inl ho)))
   .cases ho
   .exact(HY.out b e).2 (.inr (.inr (.inr (.inr ho)))))
 have KF:=Hs (ac (·=T) w5 w6) (IP▸lO w5 T);have SZ6:=Hs (Same Z w1 w6) (SZ5.out.trans (λb hb=>KF.out.block b (λe=>(HY.out b hb).2 (.inl e)) (KI5.out.lt b (HY.out b hb).1)));have SY6:=Hs (Same Y w w6) (SY5.out.trans (λb hb=>KF.out.block b (λe=>(HY.out b (ZY.out b hb)).2 (.inl e)) (KI5.out.lt b (HY.out b (ZY.out b hb)).1)));have T2K:=Hs (t2.k=r1.1/\t2.g.ok) (by rw[<-ht2]; exact⟨rfl,T5.out.ok⟩);rw[ht2]at NX3;clear IP hw6' ht2 y3 y4 y5 y6 y7 z3 z4 z5 z6 z7 SZ5 SY5 KF T5 KI5 KI2 TB2 hT5 hT H2 K2 LO HY;have RDY:=Hx (jH w0 w6 n D T t2 Z H6.out (by rw[T2K.out.1,G1.out.2.2]; have:=EPN.out; omega) (Gp.fence_ok T2K.out.2 _));go_wp2_with fail;refine RDY.out.mono ?_;rintro e w7 ⟨rfl,h7,k7⟩;have H7:=Hx h7;have SZ7:=Hs (Same Z w1 w7) (SZ6.out.trans (H6.out.same_y k7));have SY7:=Hs (Same Y w w7) (SY6.out.trans (λb hb=>(H6.out.same_y k7) b (ZY.out b hb)));clear h7 k7 RDY H6 SZ6 SY6;rw[jR];cases Jy:t2.isReady
 .have NX4:=Hx (NX3.out.trans (if_pos Jy));clear NX3;simp only[Bool.false_eq_true,if_false];go_wp2;go_ret;rw[NX4.out];exact⟨rfl,H7.out.less ZY.out,SY7.out,λh=>absurd h NOT.out⟩
 have NX4:=Hx (NX3.out.trans (if_neg (by rw[Jy]; decide)));clear NX3 Jy;simp only[if_true];obtain⟨X7,m7,ki7,tb7,lo7,hy7⟩:=H7.out;have e7:t2.ready.k=r1.1:=T2K.out.1;rw[e7]at ki7;have KI7:=Hx ki7;have TB7:=Hx tb7;have LO7:=Hx lo7;have HY7:=Hx hy7;have C0:=Hs (w7.drew.cell? ⟨T,0,none⟩=some (.pointer (some ⟨m7.K,0,none⟩))) ((aG tb7.blk tb7.ok).1.1);have BX:=Hs ((w7.drew.cell? ⟨w.heap.size,0,none⟩=some (.int .i64 s.gen)/\w7.drew.cell? ⟨w.heap.size,1,none⟩=some (.slice a s.regs.length cap)/\w7.drew.cell? ⟨w.heap.size,2,none⟩=some (.int .i64 s.typ)/\w7.drew.cell? ⟨w.heap.size,3,none⟩=some (.int .i64 s.holder)/\w7.drew.cell? ⟨w.heap.size,4,none⟩=some (.bool s.stays))) ((cells5 ((SZ7.out _ ZB.out).trans R1.out)).1);have EPD:=Hs (Calls Tryz.prog 66 #[.pointer (some ⟨m7.K,0,none⟩)] w7.drew λe w'=>e=.returned (.int .i64 r1.1.ep)/\w'=w7.drew) (gZ n w0 w7.drew X7 D m7.K r1.1 ki7.drew);obtain⟨r2,JZ⟩:=Nm (r1.1.keep n r1.1.ep s)
 have KP:=Hs (Calls Tryz.prog 88 #[.pointer (some ⟨m7.K,0,none⟩),.int .i64 r1.1.ep,.agg #[.int .i64 s.gen,.slice a s.regs.length cap,.int .i64 s.typ,.int .i64 s.holder,.bool s.stays]] w7.drew λe w'=>e=.returned (bg r2.2)/\KI n w0 X7 D m7.K r2.1 w'/\Same X7 w7.drew w') (by
  have q:=BE n w0 w7.drew X7 D m7.K r1.1 a cap r1.1.ep s ki7.drew G1.out.1.kd.ok (by rw[G1.out.1.kd.wait]; simp) G1.out.1.kd.n6 (by have:=G1.out.1.kd.p1; omega) (by have:=G1.out.2.1; have:=HN.out.num; omega) (S1.out.same (SZ7.out) (H7.out.lt_y) HS.out) TT.out;rw[JZ]at q
  exact q)
 have NX5:=Hs (r=({ t2.ready with k:=r2.1 },r2.2)) (by
  rw[NX4.out,<-JZ,<-T2K.out.1]
  rfl)
 clear JZ NX4 ki7 tb7 lo7 hy7 e7;go_upto_region 12 with fail
 go_region_held3 (λw'=>w'.cell? ⟨T,0,none⟩=some (.pointer (some ⟨m7.K,0,none⟩))/\w'.cell? ⟨w.heap.size,0,none⟩=some (.int .i64 s.gen)/\w'.cell? ⟨w.heap.size,1,none⟩=some (.slice a s.regs.length cap)/\w'.cell? ⟨w.heap.size,2,none⟩=some (.int .i64 s.typ)/\w'.cell? ⟨w.heap.size,3,none⟩=some (.int .i64 s.holder)/\w'.cell? ⟨w.heap.size,4,none⟩=some (.bool s.stays))
  (first|exact⟨C0.out,BX.out⟩ | assumption)
  (first|((with_reducible refine EPD.out.mono ?_); rintro e w8 ⟨rfl,rfl⟩)|((with_reducible refine KP.out.mono ?_); rintro e w8 ⟨rfl,ki8,sm8⟩; have c8:=And.intro ((World.cell?_of_block (a:=⟨T,0,none⟩) (sm8 T TB7.out.xt)).trans C0.out) ((uN (sm8 _ (HY7.out _ ZB.out).1) BX.out))))
 have P:=Hs (bR w0 n D T { t2.ready with k:=r2.1 } Y w8/\Same Y w w8) (  ⟨⟨X7,m7,ki8,(TB7.out.same (w':=w8) (λb hb=>sm8 b hb) ki8.lt).setK r2.1,LO7.out,λb hb=>HY7.out b (ZY.out b hb)⟩,SY7.out.trans (λb hb=>sm8 b (HY7.out b (ZY.out b hb)).1)⟩);clear ki8 sm8 c8;go_wp2;go_ret;rw[NX5.out];exact⟨rfl,P.out.1,P.out.2,λh=>absurd h NOT.out⟩
end
section
variable (w0 w:World) (n D T:Nat) (t:Tg) (Y:Nat->Prop)
theorem fA.setUp{X:Nat->Prop}{w0 w:World}{T:Nat}{m:Tm}{t:Tg}(h:fA X w0 w T m t){i:Nat}(hi:i<3)(b:Bool):fA X w0 (w.setCell ⟨T,76+i,none⟩ (.bool b)) T m { t with g:=t.g.setU i b }/\ac (·=T) w (w.setCell ⟨T,76+i,none⟩ (.bool b)) :=
 have kp:ac (·=T) w (w.setCell ⟨T,76+i,none⟩ (.bool b)):=(ac.refl (·=T) w).setCell (p:=⟨T,76+i,none⟩) rfl _
 ⟨h.turn kp (Dt h.blk h.ok hi b) (h.ok.setU i b) rfl rfl rfl rfl,kp⟩
def cV(w0 w:World)(n D T:Nat)(t:Tg)(Y:Nat->Prop)(w':World):Prop:=bR w0 n D T t Y w'/\Same Y w w'/\ac (·=T) w w'
theorem cV.of{X:Nat->Prop}{w0 w w':World}{n D T:Nat}{m:Tm}{t t':Tg}{Y:Nat->Prop}(ki:KI n w0 X D m.K t.k w)(tb:fA X w0 w T m t)(lo:∀b,X b->w0.heap.size<=b)(hy:∀b,Y b->X b/\¬ m.own T b)(kp:ac (·=T) w w')(tb':fA X w0 w' T m t')(hk:t'.k=t.k):cV w0 w n D T t' Y w' :=
 ⟨⟨X,m,by rw[hk]; exact ki.set (kp.mono (λb e=>e▸tb.xt)) lo,tb',lo,hy⟩,λb hb=>kp.block b (λe=>(hy b hb).2 (.inl e)) (ki.lt b (hy b hb).1),kp⟩
theorem cV.refl{w0 w:World}{n D T:Nat}{t:Tg}{Y:Nat->Prop}(h:bR w0 n D T t Y w):cV w0 w n D T t Y w:=⟨h,λ_ _=>rfl,ac.refl _ _⟩
theorem cV.over{w0 w w1 w':World}{n D T:Nat}{t t1:Tg}{Y:Nat->Prop}(h:bR w0 n D T t1 Y w)(b:Below w.heap.size w w1)(p:cV w0 w1 n D T t Y w'):cV w0 w n D T t Y w' :=
 ⟨p.1,λc hc=>(p.2.1 c hc).trans (b.block c (h.lt_y c hc)),(ac.of_below b).trans p.2.2⟩
theorem Aa(i:Int)(up:Bool)(h:bR w0 n D T t Y w) : Calls Tryz.prog 16 #[.pointer (some ⟨T,0,none⟩),.int .i64 i,.bool up] w λe w'=>e=.returned (bg (t.up i up).2)/\cV w0 w n D T (t.up i up).1 Y w':=by
 by_cases h1:i<0\/3<=i
 .have E:=Hs (t.up i up=(t,8)) (by unfold Tg.up; rw[if_pos h1]);have HH:=Hx h;clear h;rw[E.out]
  rcases h1 with h1 | h1
  .go_enter Tryz.func16,Tryz.ntmps16
   go_wp2;go_ret;exact⟨rfl,.refl HH.out⟩
  .have h2:¬ i<0:=by omega
   go_enter Tryz.func16,Tryz.ntmps16
   go_wp2;go_ret;exact⟨rfl,.refl HH.out⟩
 .have E:=Hs (t.up i up=({ t with g:=t.g.setU i.toNat up },0)) (by unfold Tg.up; rw[if_neg h1]);rw[E.out]
  obtain⟨k,rfl⟩:∃k:Nat,i=k:=⟨i.toNat,by omega⟩
  have hk:k<3:=by omega
  obtain⟨X,m,ki,tb,lo,hy⟩:=h
  have U3:k<t.g.u.length:=by rw[tb.ok.u3]; exact hk
  simp only[Int.toNat_natCast];obtain⟨u0,u1⟩:=Gn tb.blk tb.ok U3;obtain⟨ub,hub⟩:=Nm (t.g.u[k]);rw[hub]at u0;clear hub;have P:=Hs (cV w0 w n D T { t with g:=t.g.setU k up } Y (w.setCell ⟨T,76+k,none⟩ (.bool up))) (.of ki tb lo hy (tb.setUp hk up).2 (tb.setUp hk up).1 rfl)
  have q1:¬ (k:Int)<0:=by omega
  have q2:¬ 3<=(k:Int):=by omega
  have q3:(k:Int)<3:=by omega
  have q4:(0:Int)<=(k:Int):=by omega
  clear ki tb lo hy h1 U3 E;go_enter Tryz.func16,Tryz.ntmps16
  go_wp2;go_ret;exact⟨rfl,P.out⟩
theorem yd(i:Int)(h:bR w0 n D T t Y w) : Calls Tryz.prog 18 #[.pointer (some ⟨T,0,none⟩),.int .i64 i] w λe w'=>e=.returned (bg (t.sync i).2)/\cV w0 w n D T (t.sync i).1 Y w':=by
 by_cases h1:i<0\/3<=i
 .have E:=Hs (t.sync i=(t,8)) (by unfold Tg.sync; rw[if_pos h1]);have HH:=Hx h;clear h;rw[E.out]
  rcases h1 with h1 | h1
  .go_enter Tryz.func18,Tryz.ntmps18
   go_wp2;go_ret;exact⟨rfl,.refl HH.out⟩
  .have h2:¬ i<0:=by omega
   go_enter Tryz.func18,Tryz.ntmps18
   go_wp2;go_ret;exact⟨rfl,.refl HH.out⟩
 have E:=Hs (t.sync i=if t.g.syncs t.k.ep i.toNat then({ t with g:=t.g.sync t.k.ep i.toNat },0) else(t,7)) (by unfold Tg.sync; rw[if_neg h1])
 obtain⟨k,rfl⟩:∃k:Nat,i=k:=⟨i.toNat,by omega⟩
 have hk:k<3:=by omega
 have q1:¬ (k:Int)<0:=by omega
 have q2:¬ 3<=(k:Int):=by omega
 have HH:=Hx h;obtain⟨X,m,ki,tb,lo,hy⟩:=h
 have LTT:=(Gl tb.blk)
 have ZG:=Hx (Gp.size tb.ok);have TB:=Hx tb;have KI0:=Hx ki;have LO:=Hx lo;have HY:=Hx hy;have RG:=Hx (λw' (h:Below w.heap.size w w')=>(show w'.rangeAt T 1 t.g.arr.toList from λj v hv=>(h.cell (p:=⟨T,1+j,none⟩) LTT).trans ((eF tb.blk tb.ok).1 j v hv)));have SC:=Hx (λw' (h:Below w.heap.size w w')=>(h.cell (p:=⟨T,0,none⟩) LTT).trans (aG tb.blk tb.ok).1.1);have EPO:=Hx (λw' (h:Below w.heap.size w w')=>gZ n w0 w' X D m.K t.k (ki.over h));have FEN:=Hx (λw'=>ze t.g t.k.ep k w' tb.ok hk);have OKF:=Hx (Gp.sync_ok tb.ok t.k.ep k);simp only[Int.toNat_natCast]at E;obtain⟨FG,MA⟩:=Nm (t.g.sync t.k.ep k);obtain⟨BB,hBB⟩:=Nm (t.g.syncs t.k.ep k);rw[MA,hBB]at FEN E;rw[MA]at OKF;have ZF:=Hx (Gp.size OKF.out);clear MA hBB ki tb lo hy h1;obtain⟨r,hr⟩:=Nm (t.sync (k:Int));rw[hr]at E ⊢;clear hr;go_enter Tryz.func18,Tryz.ntmps18
 go_upto_region 3 with fail;go_cut [5,6] (λv5 v6 wx=>∃V,v5=.pointer (some ⟨V,0,none⟩)/\v6=.bool BB/\w.heap.size<=V/\wx.heap[V]?=some (.cells FG.arr 69 (0,0))/\Below w.heap.size w wx)
 case first =>
  obtain⟨S,hS⟩:∃S:World->Prop,S=λw'=>Below w.heap.size w w':=⟨_,rfl⟩
  have S3:∀w',Below w.heap.size w w'->S w':=λw' h=>by rw[hS]; exact h
  have S4:∀w',S w'->Below w.heap.size w w':=λw' h=>by rw[hS]at h; exact h
  clear hS;refine wp_region_held_drew (S:=S) (by kernel_rfl) (S3 _ (Below.refl _ _).drew) (λdT=>?_);obtain⟨wd,IB⟩:=Nn w.drew;rw[<-IB]at dT ⊢;clear IB;refine wt 0 _ dT ?_;go_simp;refine wt 1 _ dT ?_;go_simp;refine wt 2 _ dT ?_;go_simp;refine wt 3 (.agg t.g.arr) dT ?_ (hy:=cD (by rfl) 69 _ rfl T 1 rfl t.g.arr _ (λw' h=>RG.out w' (S4 w' h)) aj.1 rfl (by rw[aj.2,ZG.out]));go_simp;refine wt 4 _ dT ?_;go_simp;refine wt 5 _ dT ?_;go_simp;refine wt 6 _ dT ?_;go_simp;refine wt 7 (.pointer (some ⟨m.K,0,none⟩)) dT ?_ (hy:=Or.inl ⟨by rfl,λw' sT=>by have hc:=SC.out w' (S4 w' sT); go_simp⟩);go_simp;refine wt 9 _ dT ?_;go_simp;refine DV 8 14 (λKx hK=>?_) (λKx hK=>?_)
  .go_simp;refine(EPO.out _ (S4 _ dT)).mono ?_;rintro e w1_ ⟨rfl,hq⟩;replace hq:=hq.symm;subst hq;have IW:=dT;refine hK.out _ _ IW (λIb=>?_);clear hK Kx IW;refine DV 10 14 (λKx hK=>?_) (λKx hK=>?_)
   .go_simp;refine(FEN.out _).mono ?_;rintro e w2_ ⟨rfl,b2⟩;have Je:=S3 _ ((S4 _ Ib).trans (b2.mono (S4 _ Ib).size));clear b2;refine hK.out _ _ Je (λIa=>?_);clear hK Kx Je;refine wt 11 _ Ia ?_;go_simp;refine wt 12 _ Ia ?_;go_simp;refine wt 13 _ Ia ?_;go_simp;refine eB 14 λKx hK=>?_;go_simp;obtain⟨w3_,Ip⟩:=Nn (w2_.alloc (.cells Tryz.zeroCells69 69));have HV3:=Hs (w3_.heap[w2_.heap.size]?=some (.cells Gp.zero.arr 69 (0,0))) (Ip▸aS▸heap_alloc_new _ _);have JD:=S3 _ (show Below w.heap.size w w3_ from Ip▸(S4 _ Ia).alloc (S4 _ Ia).size _);have HL3:w.heap.size<=w2_.heap.size:=(S4 _ Ia).size;rw[<-Ip];obtain⟨V3,hV3⟩:=Nm w2_.heap.size;rw[hV3]at HV3 HL3 ⊢;clear Ip hV3;refine hK.out _ _ JD (λID=>?_);clear hK Kx JD;refine eB 15 λKx hK=>?_;refine aJ rfl 69 _ _ rfl V3 FG.arr rfl rfl 69 Gp.zero.arr HV3.out (by rw[aj.2,ZF.out]) (by rw[ZF.out]; rfl) (Gp.one _) ?_;have HS4:=Hs ((World.setRow w3_ V3 FG.arr).heap[V3]?=some (.cells FG.arr 69 (0,0))) (setRow_heap _ _ _ _ _ _ HV3.out);have KV:=S3 _ (show Below w.heap.size w (World.setRow w3_ V3 FG.arr) from aN (S4 _ ID) HL3 _);refine hK.out _ _ KV (λJi=>?_);clear hK Kx KV;go_simp;refine eB 16 λKx hK=>?_;go_simp;have KU:=Ji;refine hK.out _ _ KU (λIM=>?_);clear hK Kx KU;refine wpAnyH_done (by kernel_rfl) ?_ _;go_wp2_with fail;go_meet;exact⟨V3,rfl,rfl,HL3,HS4.out,S4 _ IM⟩
   .go_simp;obtain⟨w6_,IP⟩:=Nn (wd.alloc (.cells Tryz.zeroCells69 69));have M5:=Hs (w6_.heap[wd.heap.size]?=some (.cells Gp.zero.arr 69 (0,0))) (IP▸aS▸heap_alloc_new _ _);have KT:=S3 _ (show Below w.heap.size w w6_ from IP▸(S4 _ Ib).alloc (S4 _ Ib).size _);have HL6:w.heap.size<=wd.heap.size:=(S4 _ Ib).size;rw[<-IP];obtain⟨V6,hV6⟩:=Nm wd.heap.size;rw[hV6]at M5 HL6 ⊢;clear IP hV6;refine hK.out _ _ KT (λIt=>?_);clear hK Kx KT;refine eB 10 λKx hK=>?_;go_simp;refine(FEN.out _).mono ?_;rintro e w7_ ⟨rfl,b7⟩;have KQ:=S3 _ ((S4 _ It).trans (b7.mono (S4 _ It).size));have HV7:=Hx ((b7.block _ (Gl M5.out)).trans M5.out);clear b7;refine hK.out _ _ KQ (λIC=>?_);clear hK Kx KQ;refine wt 11 _ IC ?_;go_simp;refine wt 12 _ IC ?_;go_simp;refine wt 13 _ IC ?_;go_simp;refine eB 15 λKx hK=>?_;refine aJ rfl 69 _ _ rfl V6 FG.arr rfl rfl 69 Gp.zero.arr HV7.out (by rw[aj.2,ZF.out]) (by rw[ZF.out]; rfl) (Gp.one _) ?_;have HS8:=Hs ((World.setRow w7_ V6 FG.arr).heap[V6]?=some (.cells FG.arr 69 (0,0))) (setRow_heap _ _ _ _ _ _ HV7.out);have KO:=S3 _ (show Below w.heap.size w (World.setRow w7_ V6 FG.arr) from aN (S4 _ IC) HL6 _);refine hK.out _ _ KO (λOh=>?_);clear hK Kx KO;go_simp;refine eB 16 λKx hK=>?_;go_simp;have HH9:=Oh;refine hK.out _ _ HH9 (λJU=>?_);clear hK Kx HH9;refine wpAnyH_done (by kernel_rfl) ?_ _;go_wp2_with fail;go_meet;exact⟨V6,rfl,rfl,HL6,HS8.out,S4 _ JU⟩
  .go_simp;obtain⟨w10_,I6⟩:=Nn (wd.alloc (.cells Tryz.zeroCells69 69));have LU:=Hs (w10_.heap[wd.heap.size]?=some (.cells Gp.zero.arr 69 (0,0))) (I6▸aS▸heap_alloc_new _ _);have Le:=S3 _ (show Below w.heap.size w w10_ from I6▸(S4 _ dT).alloc (S4 _ dT).size _);have LV:w.heap.size<=wd.heap.size:=(S4 _ dT).size;rw[<-I6];obtain⟨V10,Oe⟩:=Nm wd.heap.size;rw[Oe]at LU LV ⊢;clear I6 Oe;refine hK.out _ _ Le (λJV=>?_);clear hK Kx Le;refine eB 8 λKx hK=>?_;go_simp;refine(EPO.out _ (S4 _ JV)).mono ?_;rintro e w11_ ⟨rfl,hq⟩;replace hq:=hq.symm;subst hq;have Ld:=JV;refine hK.out _ _ Ld (λJw=>?_);clear hK Kx Ld;refine eB 10 λKx hK=>?_;go_simp;refine(FEN.out _).mono ?_;rintro e w12_ ⟨rfl,b12⟩;have Lc:=S3 _ ((S4 _ Jw).trans (b12.mono (S4 _ Jw).size));have Oj:=Hx ((b12.block _ (Gl LU.out)).trans LU.out);clear b12;refine hK.out _ _ Lc (λIV=>?_);clear hK Kx Lc;refine wt 11 _ IV ?_;go_simp;refine wt 12 _ IV ?_;go_simp;refine wt 13 _ IV ?_;go_simp;refine eB 15 λKx hK=>?_;refine aJ rfl 69 _ _ rfl V10 FG.arr rfl rfl 69 Gp.zero.arr Oj.out (by rw[aj.2,ZF.out]) (by rw[ZF.out]; rfl) (Gp.one _) ?_;have HS13:=Hs ((World.setRow w12_ V10 FG.arr).heap[V10]?=some (.cells FG.arr 69 (0,0))) (setRow_heap _ _ _ _ _ _ Oj.out);have La:=S3 _ (show Below w.heap.size w (World.setRow w12_ V10 FG.arr) from aN (S4 _ IV) LV _);refine hK.out _ _ La (λJv=>?_);clear hK Kx La;go_simp;refine eB 16 λKx hK=>?_;go_simp;have KY:=Jv;refine hK.out _ _ KY (λhHeld14=>?_);clear hK Kx KY;refine wpAnyH_done (by kernel_rfl) ?_ _;go_wp2_with fail;go_meet;exact⟨V10,rfl,rfl,LV,HS13.out,S4 _ hHeld14⟩
 case rest =>
  obtain⟨V,rfl,rfl,hV,hc,hb⟩:=hcut;have HC:=Hx hc;have K5:=Hx (KI0.out.over hb);have T5:=Hx (TB.out.same (KI0.out.same_of hb) K5.out.lt);have B5:=Hx hb;have TH:=Hs (wc.there T 1 FG.arr.size) (by rw[ZF.out]; exact(eF T5.out.blk T5.out.ok).2);clear hc hb hV FEN EPO RG SC TB KI0;cases BB
  .have E2:=Hx (E.out.trans (if_neg (by decide)));clear E;go_wp2;go_ret;rw[E2.out];exact⟨rfl,.over HH.out B5.out (.refl (HH.out.over B5.out))⟩
  .have E2:=Hx (E.out.trans (if_pos rfl));have P:=Hs (cV w0 w n D T { t with g:=FG } Y (wc.setCells T 1 FG.arr.toList)) (.over HH.out B5.out (.of K5.out T5.out LO.out HY.out (T5.out.setG OKF.out).2 (T5.out.setG OKF.out).1 rfl));clear E;go_upto_region 7 with (first|((with_reducible refine bU rfl 69 _ rfl ?_); refine⟨V,_,FG.arr,_,rfl,HC.out,aj.1,rfl,by rw[aj.2,ZF.out],?_⟩)|((with_reducible refine eZ rfl 69 _ _ rfl ?_); refine⟨T,1,FG.arr,rfl,rfl,TH.out,by rw[aj.2,ZF.out],Gp.one _,?_⟩));obtain⟨w6,IP⟩:=Nn (wc.setCells T 1 FG.arr.toList);rw[<-IP]at P ⊢;clear IP T5 K5 B5 TH HC;go_wp2;go_ret;rw[E2.out];exact⟨rfl,P.out⟩
end
