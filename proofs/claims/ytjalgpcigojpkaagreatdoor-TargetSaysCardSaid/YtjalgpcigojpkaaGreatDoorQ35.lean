import Derived.Test.YtjalgpcigojpkaaGreatDoorQ32
import Derived.Test.YtjalgpcigojpkaaGreatDoorQ18
set_option maxRecDepth 99999
set_option maxHeartbeats 99999999
namespace Go.Proofs.YtjalgpcigojpkaaGreatDoor
section
open Go.RowKit Go.Sort
theorem uz(S:Nat->Prop)(w:World)(K D n:Nat)(a:Option Addr)(cap:Nat)(k:Kp)(h:np S w K D n a cap k)(hl:k.s.regs.length<=1000) : Calls Tryz.prog 45 #[.pointer (some ⟨K,0,none⟩)] w λe w'=>∃a2 cap2,e=.returned (dh k.s a2 cap2)/\bj w' k.s a2/\Below w.heap.size w w'/\∀b o,a2=some ⟨b,o,none⟩->w.heap.size<=b/\b<w'.heap.size:=by
 have HH:=Hx h;have hb:=h.blk
 have hK:=(Gl h.blk)
 clear h
 obtain⟨y3,y4,y5,y6,y7⟩:w.cell? ⟨K,3,none⟩=some (.int .i64 k.s.gen)/\w.cell? ⟨K,4,none⟩=some (.slice a k.s.regs.length cap)/\w.cell? ⟨K,5,none⟩=some (.int .i64 k.s.typ)/\w.cell? ⟨K,6,none⟩=some (.int .i64 k.s.holder)/\w.cell? ⟨K,7,none⟩=some (.bool k.s.stays):=by simp[World.cell?,hb]
 clear hb;go_enter Tryz.func45,Tryz.ntmps45
 go_upto_region 2 with fail;obtain⟨w1,pX⟩:=Nm ((w.alloc (.cells #[.int .i64 0,.slice none 0 0,.int .i64 0,.int .i64 0,.bool false] 34)).alloc (.cells #[.int .i64 k.s.gen,.slice a k.s.regs.length cap,.int .i64 k.s.typ,.int .i64 k.s.holder,.bool k.s.stays] 34));rw[pX];have B1:=Hs (Below w.heap.size w w1) (pX▸(ay w _).trans ((ay _ _).mono (by simp)))
 have Ii:w1.heap.size=w.heap.size+2:=by rw[<-pX]; simp
 have R1:=Hs (w1.heap[w.heap.size]?=some (.cells #[.int .i64 0,.slice none 0 0,.int .i64 0,.int .i64 0,.bool false] 34 (0,0))) (pX▸heap_alloc2_old w _ _);have N1:=Hs (w1.heap[w.heap.size+1]?=some (.cells #[.int .i64 k.s.gen,.slice a k.s.regs.length cap,.int .i64 k.s.typ,.int .i64 k.s.holder,.bool k.s.stays] 34 (0,0))) (pX▸heap_alloc2_new w _ _);clear pX;obtain⟨v,w2,II,ec,b2⟩:=iZ k.s.regs a cap 32 w1 hl ((HH.out.str.below B1.out).rep);obtain⟨a2,cap2,rfl,MR,-⟩:=bX.shape ec;have LO:=Hs (∀q o,a2=some ⟨q,o,none⟩->w1.heap.size<=q/\q<w2.heap.size) (λq o e=>World.ownsRow.lt ec q (by rw[e]; rfl));have B2:=Hx (B1.out.trans (b2.mono B1.out.size));have R2:=Hx ((b2.block w.heap.size (by omega)).trans R1.out);have N2:=Hx ((b2.block (w.heap.size+1) (by omega)).trans N1.out);have S2:=Hs (bj w2 k.s a2) (⟨by unfold maxLen; omega,MR⟩);obtain⟨⟨c0,c1,c2,c3,c4⟩,f0,f1,f2,f3,f4⟩:=cells5 N1.out;obtain⟨⟨d0,d1,d2,d3,d4⟩,g0,g1,g2,g3,g4⟩:=cells5 N2.out;obtain⟨⟨r0,r1,r2,r3,r4⟩,t0,t1,t2,t3,t4⟩:=cells5 R2.out;clear y3 y4 y5 y6 y7 MR ec b2;go_wp2_with (at_builtin; refine Lib.wpList_append_run _ rfl _ _ 32 32 rfl _ _ rfl rfl _ _ II ?_);have N3:=one_setCell (o:=1) N2.out (.slice a2 k.s.regs.length cap2);have R3:=(Below.heap_setCell w2 ⟨w.heap.size+1,1,none⟩ (.slice a2 k.s.regs.length cap2) w.heap.size (by show w.heap.size≠w.heap.size+1; omega)).trans R2.out;refine bodyPost_ret (v:=dh k.s a2 cap2) (ky Tryz.results45 _ _ w.heap.size 34 #[.int .i64 k.s.gen,.slice a2 k.s.regs.length cap2,.int .i64 k.s.typ,.int .i64 k.s.holder,.bool k.s.stays] _ rfl (dF R3 _ _ _ _ _) br.1 rfl br.2) rfl ?_
 exact⟨a2,cap2,rfl,(S2.out.keeps (dN (ac.refl (·=w.heap.size+1) w2) 1 (.slice a2 k.s.regs.length cap2)) (λb o e _=>by have:=(LO.out b o e).1; omega)).five (λb o e=>by have:=(LO.out b o e).1; omega) _ _ _ _ _,
  bW (B2.out.setCell (p:=⟨w.heap.size+1,1,none⟩) (by show w.heap.size<=w.heap.size+1; omega) _) (Nat.le_refl _) _ _ _ _ _,λb o e=>⟨by have:=(LO.out b o e).1; omega,by have:=(LO.out b o e).2; simpa[World.setCell] using this⟩⟩
theorem rF(n:Nat)(w wx:World)(X:Nat->Prop)(D K:Nat)(k:Kp)(h:KI n w X D K k wx)(hl:k.s.regs.length<=1000) : Calls Tryz.prog 45 #[.pointer (some ⟨K,0,none⟩)] wx λe w'=>∃a2 cap2,e=.returned (dh k.s a2 cap2)/\bj w' k.s a2/\Below wx.heap.size wx w'/\∀b o,a2=some ⟨b,o,none⟩->wx.heap.size<=b/\b<w'.heap.size:=by
 obtain⟨S,a,cap,kr,lo,kb,bl,hx,ax⟩:=h;exact uz S wx K D n a cap k kr hl
def Gz (w1:World)(r:St × List (Int × Int) × Int)(V:Nat)(v:Value)(wx:World):Prop :=
 ∃a cap,w1.heap.size<=V/\wx.heap[V]?=some (.cells #[.int .i64 r.1.gen,.slice a r.1.regs.length cap,.int .i64 r.1.typ,.int .i64 r.1.holder,.bool r.1.stays] 34 (0,0))/\bj wx r.1 a/\(∀b o,a=some ⟨b,o,none⟩->w1.heap.size<=b)/\bT w1.heap.size wx v r.2.1/\Below w1.heap.size w1 wx
theorem mV{w:World}{V:Nat}(v0 v1 v2 v3 v4:Value):ac (·=V) w (five w V v0 v1 v2 v3 v4):=by unfold five;exact(((((ac.refl (·=V) w).setCell (p:=⟨V,0,none⟩) rfl _).setCell (p:=⟨V,1,none⟩) rfl _).setCell (p:=⟨V,2,none⟩) rfl _).setCell (p:=⟨V,3,none⟩) rfl _).setCell (p:=⟨V,4,none⟩) rfl _
theorem vK{B V:Nat}{w w':World}{v:Value}{l:List (Int × Int)}(h:bT B w v l)(k:ac (·=V) w w')(hv:∀k,v.ownBlock=some k->k≠V):bT B w' v l :=
 aV h (λb e=>k.block b (hv b e) (World.ownsRow.lt h b e).2)
theorem A9{w1 wd:World}{r:St × List (Int × Int) × Int}{V:Nat}{x0 x1 x2 x3 x4:Value}{a:Option Addr}{c:Nat}{v:Value}(b:Below w1.heap.size w1 wd)(hV:w1.heap.size<=V)(hv:wd.heap[V]?=some (.cells #[x0,x1,x2,x3,x4] 34 (0,0)))(hs:bj wd r.1 a)(fa:∀b o,a=some ⟨b,o,none⟩->w1.heap.size<=b)(nv:(∀b o,a=some ⟨b,o,none⟩->r.1.regs≠[]->b≠V)/\∀k,v.ownBlock=some k->k≠V)(ho:bT w1.heap.size wd v r.2.1) : Gz w1 r V v (five wd V (.int .i64 r.1.gen) (.slice a r.1.regs.length c) (.int .i64 r.1.typ) (.int .i64 r.1.holder) (.bool r.1.stays))/\Below w1.heap.size w1 (five wd V (.int .i64 r.1.gen) (.slice a r.1.regs.length c) (.int .i64 r.1.typ) (.int .i64 r.1.holder) (.bool r.1.stays)) :=
 have hb:=bW b hV (.int .i64 r.1.gen) (.slice a r.1.regs.length c) (.int .i64 r.1.typ) (.int .i64 r.1.holder) (.bool r.1.stays)
 ⟨⟨a,c,hV,dF hv _ _ _ _ _,hs.keeps (mV _ _ _ _ _) nv.1,fa,vK ho (mV _ _ _ _ _) nv.2,hb⟩,hb⟩
theorem Bx.set_get(b:Bx)(who k:Int)(s:Sl):(b.set who s).get k=s\/∃k',(b.set who s).get k=b.get k':=by
 have key:∀x:Bx,(x.s1=s\/x.s1=b.s1)->(x.s2=s\/x.s2=b.s2)->(x.s3=s\/x.s3=b.s3)->(x.s4=s\/x.s4=b.s4)->(x.get k=s\/∃k',x.get k=b.get k'):=by
  intro x h1 h2 h3 h4;by_cases k1:k=1
  .rw[show x.get k=x.s1 from if_pos k1]; exact h1.imp id (λe=>⟨1,e⟩)
  by_cases k2:k=2
  .rw[show x.get k=x.s2 from(if_neg k1).trans (if_pos k2)]; exact h2.imp id (λe=>⟨2,e⟩)
  by_cases k3:k=3
  .rw[show x.get k=x.s3 from(if_neg k1).trans ((if_neg k2).trans (if_pos k3))]; exact h3.imp id (λe=>⟨3,e⟩)
  .rw[show x.get k=x.s4 from(if_neg k1).trans ((if_neg k2).trans (if_neg k3))]; exact h4.imp id (λe=>⟨4,e⟩)
 unfold Bx.set
 split
 .exact key _ (.inl rfl) (.inr rfl) (.inr rfl) (.inr rfl)
 split
 .exact key _ (.inr rfl) (.inl rfl) (.inr rfl) (.inr rfl)
 split
 .exact key _ (.inr rfl) (.inr rfl) (.inl rfl) (.inr rfl)
 .exact key _ (.inr rfl) (.inr rfl) (.inr rfl) (.inl rfl)
theorem bR.setBox1{X:Nat->Prop}{w0 w w1:World}{n D T:Nat}{m:Tm}{t:Tg}{Y:Nat->Prop}(ki:KI n w0 X D m.K t.k w)(tb:fA X w0 w T m t)(lo:∀b,X b->w0.heap.size<=b)(hy:∀b,Y b->X b/\¬ m.own T b)(b1:Below w.heap.size w w1){who:Int}(hw:1<=who/\who<=4)(s:Sl)(hs:s.ok w1)(hh:s=m.b.get who\/fB w.heap.size w1 s.a s.l) : cV w0 w n D T { t with b:=t.b.set who s.l } Y (fH w1 T (m.b.set who s)):=by
 have hT:=(Gl tb.blk)
 have k1:=ki.all b1;have tb1:=(tb.same (ki.same_of b1) (ki.over b1).lt).mono (Y:=λc=>X c\/(w.heap.size<=c/\c<w1.heap.size)) (λc e=>.inl e)
 have lo1:∀c,(X c\/(w.heap.size<=c/\c<w1.heap.size))->w0.heap.size<=c:=λc e=>by
  rcases e with e | e
  .exact lo c e
  .exact Nat.le_trans ki.below.size e.1
 have N:ni (m.bx (λc=>X c\/(w.heap.size<=c/\c<w1.heap.size)) T) w1 s s.l:=by
  refine⟨?_,hs.len,hs.cap,rfl⟩
  rcases hh with hh | hh
  .rw[hh]; exact(tb1.box who).ints
  .exact hh.intsX (λc h1 h2=>⟨.inr ⟨h1,h2⟩,by omega,λo e=>by have:=ki.lt c (tb.xf c o e); omega⟩)
 have o1:=tb1.box 1;have o2:=tb1.box 2;have o3:=tb1.box 3;have o4:=tb1.box 4
 have tb2:=tb1.setBox (m.b.set who s) (t.b.set who s.l) (λk=>by
  have hk:who=1\/who=2\/who=3\/who=4:=by omega
  rcases hk with rfl | rfl | rfl | rfl
  .by_cases h1:k=1
   .subst h1; exact N
   by_cases h2:k=2
   .subst h2; exact o2
   by_cases h3:k=3
   .subst h3; exact o3
   .have e1:(m.b.set 1 s).get k=m.b.get 4:=by unfold Bx.get; rw[if_neg h1,if_neg h2,if_neg h3]; rfl
    have e2:(t.b.set 1 s.l).get k=t.b.get 4:=by unfold Bl.get; rw[if_neg h1,if_neg h2,if_neg h3]; rfl
    rw[e1,e2]; exact o4
  .by_cases h1:k=1
   .subst h1; exact o1
   by_cases h2:k=2
   .subst h2; exact N
   by_cases h3:k=3
   .subst h3; exact o3
   .have e1:(m.b.set 2 s).get k=m.b.get 4:=by unfold Bx.get; rw[if_neg h1,if_neg h2,if_neg h3]; rfl
    have e2:(t.b.set 2 s.l).get k=t.b.get 4:=by unfold Bl.get; rw[if_neg h1,if_neg h2,if_neg h3]; rfl
    rw[e1,e2]; exact o4
  .by_cases h1:k=1
   .subst h1; exact o1
   by_cases h2:k=2
   .subst h2; exact o2
   by_cases h3:k=3
   .subst h3; exact N
   .have e1:(m.b.set 3 s).get k=m.b.get 4:=by unfold Bx.get; rw[if_neg h1,if_neg h2,if_neg h3]; rfl
    have e2:(t.b.set 3 s.l).get k=t.b.get 4:=by unfold Bl.get; rw[if_neg h1,if_neg h2,if_neg h3]; rfl
    rw[e1,e2]; exact o4
  .by_cases h1:k=1
   .subst h1; exact o1
   by_cases h2:k=2
   .subst h2; exact o2
   by_cases h3:k=3
   .subst h3; exact o3
   .have e1:(m.b.set 4 s).get k=s:=by unfold Bx.get; rw[if_neg h1,if_neg h2,if_neg h3]; rfl
    have e2:(t.b.set 4 s.l).get k=s.l:=by unfold Bl.get; rw[if_neg h1,if_neg h2,if_neg h3]; rfl
    rw[e1,e2]; exact N)
 have Of:(λc=>X c\/(w.heap.size<=c/\c<w1.heap.size)) T:=.inl tb.xt
 exact⟨⟨_,{ m with b:=m.b.set who s },k1.set (dL w1 Of _) lo1,tb2,lo1,λc e=>⟨.inl (hy c e).1,λho=>by
   have hc:=ki.lt c (hy c e).1
   rcases ho with ho | ho | ho | ho | ho | ⟨k,o,e',hn⟩
   .exact(hy c e).2 (.inl ho)
   .exact(hy c e).2 (.inr (.inl ho))
   .exact(hy c e).2 (.inr (.inr (.inl ho)))
   .exact(hy c e).2 (.inr (.inr (.inr (.inl ho))))
   .exact(hy c e).2 (.inr (.inr (.inr (.inr (.inl ho)))))
   .have old:∀k',(m.b.get k').a=some ⟨c,o,none⟩->(m.b.get k').l≠[]->False:=λk' a1 a2=>(hy c e).2 (.inr (.inr (.inr (.inr (.inr ⟨k',o,a1,a2⟩)))));have e2:((m.b.set who s).get k).a=some ⟨c,o,none⟩:=e';have n2:((m.b.set who s).get k).l≠[]:=hn
    rcases Bx.set_get m.b who k s with q | ⟨k',q⟩
    .rw[q]at e2 n2
     rcases hh with hh | hh
     .rw[hh]at e2 n2;exact old who e2 n2
     .obtain⟨b',o',a1,a2,-⟩:=hh 0 (List.length_pos_iff.2 n2);rw[e2]at a1;cases a1
      omega
    .rw[q]at e2 n2
     exact old k' e2 n2⟩⟩,
  λc hc=>((dL (X:=(·=T)) w1 rfl _).block c (λe=>(hy c hc).2 (.inl e)) ((ki.over b1).lt c (hy c hc).1)).trans (b1.block c (ki.lt c (hy c hc).1)),(ac.of_below b1).trans (dL (X:=(·=T)) w1 rfl _)⟩
theorem ni.ok{X:Nat->Prop}{w:World}{s:Sl}{l:List Int}(h:ni X w s l):s.ok w:=⟨h.ints.ints,h.len,h.cap⟩
theorem fA.boxOk{X:Nat->Prop}{w0 w:World}{T:Nat}{m:Tm}{t:Tg}(h:fA X w0 w T m t):m.b.ok w:=⟨(h.box 1).ok,(h.box 2).ok,(h.box 3).ok,(h.box 4).ok⟩
section
variable (w0 w:World) (n D T:Nat) (t:Tg) (Y:Nat->Prop)
theorem vi(c:bG)(h:bR w0 n D T t Y w)(hn:GO n t)(hc:jA c)(hwho:∀x∈(dy t.k.s c).2.1,1<=x.1/\x.1<=4)(tt:Tabs w0) : Calls Tryz.prog 43 #[.pointer (some ⟨T,0,none⟩),eX c] w λe w'=>e=.returned (bg (t.order n c).2)/\bR w0 n D T (t.order n c).1 Y w'/\Same Y w w':=by
 have HN:=Hx hn;have HC:=Hx hc;have TT:=Hx tt;have GD:=Hs (Good t.k.s) hn.kg.kd.place.k.g;obtain⟨w1,pX⟩:=Nn (w.alloc (.cells #[.int .i64 c.op,.int .i64 c.who,.int .i64 c.key,.int .i64 c.new,.int .i64 c.typ,.int .i64 c.at',.bool c.stays,.string c.data,.string c.want] 39));have B1:=Hs (Below w.heap.size w w1) (pX▸ay w _);have R1:=Hs (w1.heap[w.heap.size]?=some (.cells #[.int .i64 c.op,.int .i64 c.who,.int .i64 c.key,.int .i64 c.new,.int .i64 c.typ,.int .i64 c.at',.bool c.stays,.string c.data,.string c.want] 39 (0,0))) (pX▸heap_alloc_new w _)
 have HA:=(Gl R1.out)
 have SY1:=Hs (Same Y w w1) (λb hb=>B1.out.block b (h.lt_y b hb));have H1:=Hs (bR w0 n D T t Y w1) (h.over B1.out);clear h hn hc tt
 have OR:=Hx (show t.order n c=if (dy t.k.s c).2.2≠0 then(t,(dy t.k.s c).2.2) else
  if (if cG ce t.k.s (dy t.k.s c).1 then t.next n (dy t.k.s c).1 else t.keep n t.k.ep (dy t.k.s c).1).2≠0 then(if cG ce t.k.s (dy t.k.s c).1 then t.next n (dy t.k.s c).1 else t.keep n t.k.ep (dy t.k.s c).1)
  else({ (if cG ce t.k.s (dy t.k.s c).1 then t.next n (dy t.k.s c).1 else t.keep n t.k.ep (dy t.k.s c).1).1 with b:=(if cG ce t.k.s (dy t.k.s c).1 then t.next n (dy t.k.s c).1 else t.keep n t.k.ep (dy t.k.s c).1).1.b.adds (dy t.k.s c).2.1 },0) from rfl)
 obtain⟨R,hR⟩:=Nm (t.order n c);rw[hR]at OR ⊢;have DO:=Hx (λ(w':World) a cap (hs:bj w' t.k.s a)=>FQ t.k.s a cap c w' hs ⟨by have:=GD.out.regs_len; omega,λr hr=>by have:=GD.out.bounds r hr; omega,GD.out.sorted⟩ (by have:=HC.out.who; omega) HC.out.op.1 GD.out.gen);obtain⟨r,hr⟩:=Nm (dy t.k.s c);rw[hr]at OR DO hwho;have WHO:=Hx hwho;clear hR hr hwho;obtain⟨X,m,ki,tb,lo,hy⟩:=H1.out
 have hT:=(Gl tb.blk)
 have SC:=Hx (λw' (b:Below w1.heap.size w1 w')=>(b.cell (p:=⟨T,0,none⟩) hT).trans (aG tb.blk tb.ok).1.1)
 have CB:=Hs (∀w',Below w1.heap.size w1 w'->w'.cell? ⟨w.heap.size,0,none⟩=some (.int .i64 c.op)/\w'.cell? ⟨w.heap.size,1,none⟩=some (.int .i64 c.who)/\w'.cell? ⟨w.heap.size,2,none⟩=some (.int .i64 c.key)/\w'.cell? ⟨w.heap.size,3,none⟩=some (.int .i64 c.new)/\w'.cell? ⟨w.heap.size,4,none⟩=some (.int .i64 c.typ)/\w'.cell? ⟨w.heap.size,5,none⟩=some (.int .i64 c.at')/\w'.cell? ⟨w.heap.size,6,none⟩=some (.bool c.stays)/\w'.cell? ⟨w.heap.size,7,none⟩=some (.string c.data)/\w'.cell? ⟨w.heap.size,8,none⟩=some (.string c.want)) (λw' b=>by
  have q:=(b.block _ HA).trans R1.out
  simp[World.cell?,q])
 have STA:=Hx (λw' (b:Below w1.heap.size w1 w')=>rF n w0 w' X D m.K t.k (ki.over b) (by have:=GD.out.regs_len; omega));clear ki tb lo hy;go_enter Tryz.func43,Tryz.ntmps43
 go_upto_region 1 with fail;rw[<-pX];clear pX;go_cut [5,6,7] (λv5 v6 v7 wx=>∃V v,v5=.pointer (some ⟨V,0,none⟩)/\v6=v/\v7=bg r.2.2/\Gz w1 r V v wx)
 case first =>
  obtain⟨S,hS⟩:∃S:World->Prop,S=λw'=>Below w1.heap.size w1 w':=⟨_,rfl⟩
  have S3:∀w',Below w1.heap.size w1 w'->S w':=λw' h=>by rw[hS]; exact h
  have S4:∀w',S w'->Below w1.heap.size w1 w':=λw' h=>by rw[hS]at h; exact h
  clear hS;refine wp_region_held_drew (S:=S) (by kernel_rfl) (S3 _ (Below.refl _ _).drew) (λdT=>?_);obtain⟨wd,IB⟩:=Nn w1.drew;rw[<-IB]at dT ⊢;clear IB;refine wt 0 _ dT ?_;go_simp;refine wt 1 _ dT ?_;go_simp;refine wt 2 _ dT ?_;go_simp;refine wt 3 (.pointer (some ⟨m.K,0,none⟩)) dT ?_ (hy:=Or.inl ⟨by rfl,λw' sT=>by have hc:=SC.out w' (S4 w' sT); go_simp⟩);go_simp;refine wt 5 (eX c) dT ?_ (hy:=Or.inl ⟨by rfl,λw' sT=>by obtain⟨q0,q1,q2,q3,q4,q5,q6,q7,q8⟩:=CB.out w' (S4 w' sT); go_simp⟩);go_simp;refine DV 4 11 (λKx hK=>?_) (λKx hK=>?_)
  .go_simp;refine(STA.out _ (S4 _ dT)).mono ?_;rintro e w1_ ⟨x1,y1,rfl,Ls,b1,fr1⟩;have HS1:=Hx Ls;have FR1:=Hs (∀b o,x1=some ⟨b,o,none⟩->w1.heap.size<=b/\b<w1_.heap.size) (λb o q=>⟨Nat.le_trans (S4 _ dT).size (fr1 b o q).1,(fr1 b o q).2⟩);have IW:=S3 _ ((S4 _ dT).trans (b1.mono (S4 _ dT).size));clear Ls fr1 b1;refine hK.out _ _ IW (λIb=>?_);clear hK Kx IW;refine DV 6 11 (λKx hK=>?_) (λKx hK=>?_)
   .go_simp;refine(DO.out _ _ _ HS1.out).mono ?_;rintro e w2_ ⟨a2,c2,v2,rfl,Nh,hA2,ho2,b2⟩;have Nx:=Hx Nh;have HO2:=Hs (bT w1.heap.size w2_ v2 r.2.1) (ho2.mono (S4 _ Ib).size);have FR2:=Hs (∀b o,a2=some ⟨b,o,none⟩->w1.heap.size<=b) (λb o q=>by rcases hA2 with h | h; exact(FR1.out b o (h▸q)).1; exact Nat.le_trans (S4 _ Ib).size (h b o q));have Je:=S3 _ ((S4 _ Ib).trans (b2.mono (S4 _ Ib).size));clear Nh hA2 ho2 b2;refine hK.out _ _ Je (λIa=>?_);clear hK Kx Je;refine wt 7 _ Ia ?_;go_simp;refine wt 8 _ Ia ?_;go_simp;refine wt 9 _ Ia ?_;go_simp;refine wt 10 _ Ia ?_;go_simp;refine eB 11 λKx hK=>?_;go_simp;obtain⟨w3_,Ip⟩:=Nn (w2_.alloc (.cells #[.int .i64 0,.slice none 0 0,.int .i64 0,.int .i64 0,.bool false] 34));have HV3:=Hs (w3_.heap[w2_.heap.size]?=some (.cells #[.int .i64 0,.slice none 0 0,.int .i64 0,.int .i64 0,.bool false] 34 (0,0))) (Ip▸heap_alloc_new _ _);have b3:Below w2_.heap.size w2_ w3_:=Ip▸ay _ _;have HL3:w1.heap.size<=w2_.heap.size:=(S4 _ Ia).size;have JD:=S3 _ ((S4 _ Ia).trans (b3.mono (S4 _ Ia).size));rw[<-Ip];have Nw:=Hs (bj w3_ r.1 a2) (Nx.out.below b3);have HO3:=Hs (bT w1.heap.size w3_ v2 r.2.1) (bT.below HO2.out b3);have NV3:=Hs ((∀b o,a2=some ⟨b,o,none⟩->r.1.regs≠[]->b≠w2_.heap.size)/\∀k,v2.ownBlock=some k->k≠w2_.heap.size) (⟨λb o q Ik=>by have hs:=Nx.out; rw[q]at hs; have:=bj.blt hs Ik; omega,λk q=>by have:=(World.ownsRow.lt HO2.out k q).2; omega⟩);obtain⟨V3,hV3⟩:=Nm w2_.heap.size;rw[hV3]at HV3 HL3 NV3 ⊢;clear Ip hV3 b3;refine hK.out _ _ JD (λID=>?_);clear hK Kx JD;refine eB 12 λKx hK=>?_;obtain⟨⟨y0,y1,y2,y3,y4⟩,z0,z1,z2,z3,z4⟩:=cells5 HV3.out;go_simp;clear y0 y1 y2 y3 y4 z0 z1 z2 z3 z4;have OC4:=Hx (A9 (c:=c2) (S4 _ ID) HL3 HV3.out Nw.out FR2.out NV3.out HO3.out);have KV:=S3 _ OC4.out.2;refine hK.out _ _ KV (λJi=>?_);clear hK Kx KV;refine eB 13 λKx hK=>?_;go_simp;have KU:=Ji;refine hK.out _ _ KU (λIM=>?_);clear hK Kx KU;refine eB 14 λKx hK=>?_;go_simp;have KT:=IM;refine hK.out _ _ KT (λIt=>?_);clear hK Kx KT;refine wpAnyH_done (by kernel_rfl) ?_ _;go_wp2_with fail;go_meet;exact⟨V3,v2,rfl,rfl,rfl,OC4.out.1⟩
   .go_simp;obtain⟨w7_,hw7⟩:=Nn (w1_.alloc (.cells #[.int .i64 0,.slice none 0 0,.int .i64 0,.int .i64 0,.bool false] 34));have HV7:=Hs (w7_.heap[w1_.heap.size]?=some (.cells #[.int .i64 0,.slice none 0 0,.int .i64 0,.int .i64 0,.bool false] 34 (0,0))) (hw7▸heap_alloc_new _ _);have b7:Below w1_.heap.size w1_ w7_:=hw7▸ay _ _;have HL7:w1.heap.size<=w1_.heap.size:=(S4 _ Ib).size;have KQ:=S3 _ ((S4 _ Ib).trans (b7.mono (S4 _ Ib).size));rw[<-hw7];have HS7:=Hs (bj w7_ t.k.s x1) (HS1.out.below b7);have NV7:=Hs (∀b o,x1=some ⟨b,o,none⟩->b≠w1_.heap.size) (λb o q=>by have:=(FR1.out b o q).2; omega);have FR7:=Hs (∀b o,x1=some ⟨b,o,none⟩->w1.heap.size<=b/\b<w7_.heap.size) (λb o q=>⟨(FR1.out b o q).1,Nat.lt_of_lt_of_le (FR1.out b o q).2 b7.size⟩);obtain⟨V7,hV7⟩:=Nm w1_.heap.size;rw[hV7]at HV7 HL7 NV7 ⊢;clear hw7 hV7 b7;refine hK.out _ _ KQ (λIC=>?_);clear hK Kx KQ;refine eB 6 λKx hK=>?_;go_simp;refine(DO.out _ _ _ HS7.out).mono ?_;rintro e w8_ ⟨a8,c8,v8,rfl,hs8,hA8,ho8,b8⟩;have HS8:=Hx hs8;have HO8:=Hs (bT w1.heap.size w8_ v8 r.2.1) (ho8.mono (S4 _ IC).size);have FR8:=Hs (∀b o,a8=some ⟨b,o,none⟩->w1.heap.size<=b) (λb o q=>by rcases hA8 with h | h; exact(FR7.out b o (h▸q)).1; exact Nat.le_trans (S4 _ IC).size (h b o q))
    have NV8:=Hs ((∀b o,a8=some ⟨b,o,none⟩->r.1.regs≠[]->b≠V7)/\∀k,v8.ownBlock=some k->k≠V7) (by
     have hl:=(Gl HV7.out)
     refine⟨λb o q _=>?_,λk q=>by have:=ho8.blk k q; omega⟩
     rcases hA8 with h | h
     .exact NV7.out b o (h▸q)
     .have:=h b o q; omega)
    have HV8:=Hx ((b8.block _ (Gl HV7.out)).trans HV7.out);have KO:=S3 _ ((S4 _ IC).trans (b8.mono (S4 _ IC).size));clear hs8 hA8 ho8 b8;refine hK.out _ _ KO (λOh=>?_);clear hK Kx KO;refine wt 7 _ Oh ?_;go_simp;refine wt 8 _ Oh ?_;go_simp;refine wt 9 _ Oh ?_;go_simp;refine wt 10 _ Oh ?_;go_simp;refine eB 12 λKx hK=>?_;obtain⟨⟨y0,y1,y2,y3,y4⟩,z0,z1,z2,z3,z4⟩:=cells5 HV8.out;go_simp;clear y0 y1 y2 y3 y4 z0 z1 z2 z3 z4;have OC9:=Hx (A9 (c:=c8) (S4 _ Oh) HL7 HV8.out HS8.out FR8.out NV8.out HO8.out);have HH9:=S3 _ OC9.out.2;refine hK.out _ _ HH9 (λJU=>?_);clear hK Kx HH9;refine eB 13 λKx hK=>?_;go_simp;have Le:=JU;refine hK.out _ _ Le (λJV=>?_);clear hK Kx Le;refine eB 14 λKx hK=>?_;go_simp;have Ld:=JV;refine hK.out _ _ Ld (λJw=>?_);clear hK Kx Ld;refine wpAnyH_done (by kernel_rfl) ?_ _;go_wp2_with fail;go_meet;exact⟨V7,v8,rfl,rfl,rfl,OC9.out.1⟩
  .go_simp;obtain⟨w12_,Ku⟩:=Nn (wd.alloc (.cells #[.int .i64 0,.slice none 0 0,.int .i64 0,.int .i64 0,.bool false] 34));have Oj:=Hs (w12_.heap[wd.heap.size]?=some (.cells #[.int .i64 0,.slice none 0 0,.int .i64 0,.int .i64 0,.bool false] 34 (0,0))) (Ku▸heap_alloc_new _ _);have b12:Below wd.heap.size wd w12_:=Ku▸ay _ _;have HL12:w1.heap.size<=wd.heap.size:=(S4 _ dT).size;have Lc:=S3 _ ((S4 _ dT).trans (b12.mono (S4 _ dT).size));rw[<-Ku];obtain⟨V12,hV12⟩:=Nm wd.heap.size;rw[hV12]at Oj HL12 ⊢;clear Ku hV12 b12;refine hK.out _ _ Lc (λIV=>?_);clear hK Kx Lc;refine eB 4 λKx hK=>?_;go_simp;refine(STA.out _ (S4 _ IV)).mono ?_;rintro e w13_ ⟨x13,y13,rfl,hs13,b13,fr13⟩;have HS13:=Hx hs13;have FR13:=Hs (∀b o,x13=some ⟨b,o,none⟩->w1.heap.size<=b/\b<w13_.heap.size) (λb o q=>⟨Nat.le_trans (S4 _ IV).size (fr13 b o q).1,(fr13 b o q).2⟩);have NV13:=Hs (∀b o,x13=some ⟨b,o,none⟩->b≠V12) (λb o q=>by have:=(fr13 b o q).1; have:=(Gl Oj.out); omega);have HV13:=Hx ((b13.block _ (Gl Oj.out)).trans Oj.out);have La:=S3 _ ((S4 _ IV).trans (b13.mono (S4 _ IV).size));clear hs13 fr13 b13;refine hK.out _ _ La (λJv=>?_);clear hK Kx La;refine eB 6 λKx hK=>?_;go_simp;refine(DO.out _ _ _ HS13.out).mono ?_;rintro e w14_ ⟨a14,c14,v14,rfl,hs14,hA14,ho14,b14⟩;have HS14:=Hx hs14;have HO14:=Hs (bT w1.heap.size w14_ v14 r.2.1) (ho14.mono (S4 _ Jv).size);have FR14:=Hs (∀b o,a14=some ⟨b,o,none⟩->w1.heap.size<=b) (λb o q=>by rcases hA14 with h | h; exact(FR13.out b o (h▸q)).1; exact Nat.le_trans (S4 _ Jv).size (h b o q))
   have NV14:=Hs ((∀b o,a14=some ⟨b,o,none⟩->r.1.regs≠[]->b≠V12)/\∀k,v14.ownBlock=some k->k≠V12) (by
    have hl:=(Gl HV13.out)
    refine⟨λb o q _=>?_,λk q=>by have:=ho14.blk k q; omega⟩
    rcases hA14 with h | h
    .exact NV13.out b o (h▸q)
    .have:=h b o q; omega)
   have HV14:=Hx ((b14.block _ (Gl HV13.out)).trans HV13.out);have KY:=S3 _ ((S4 _ Jv).trans (b14.mono (S4 _ Jv).size));clear hs14 hA14 ho14 b14;refine hK.out _ _ KY (λhHeld14=>?_);clear hK Kx KY;refine wt 7 _ hHeld14 ?_;go_simp;refine wt 8 _ hHeld14 ?_;go_simp;refine wt 9 _ hHeld14 ?_;go_simp;refine wt 10 _ hHeld14 ?_;go_simp;refine eB 12 λKx hK=>?_;obtain⟨⟨y0,y1,y2,y3,y4⟩,z0,z1,z2,z3,z4⟩:=cells5 HV14.out;go_simp;clear y0 y1 y2 y3 y4 z0 z1 z2 z3 z4;have OC15:=Hx (A9 (c:=c14) (S4 _ hHeld14) HL12 HV14.out HS14.out FR14.out NV14.out HO14.out);have HH15:=S3 _ OC15.out.2;refine hK.out _ _ HH15 (λhHeld15=>?_);clear hK Kx HH15;refine eB 13 λKx hK=>?_;go_simp;have HH16:=hHeld15;refine hK.out _ _ HH16 (λhHeld16=>?_);clear hK Kx HH16;refine eB 14 λKx hK=>?_;go_simp;have HH17:=hHeld16;refine hK.out _ _ HH17 (λhHeld17=>?_);clear hK Kx HH17;refine wpAnyH_done (by kernel_rfl) ?_ _;go_wp2_with fail;go_meet;exact⟨V12,v14,rfl,rfl,rfl,OC15.out.1⟩
 case rest =>
  obtain⟨w2,rfl⟩:∃w2:World,w2=wc:=⟨_,rfl⟩
  obtain⟨V,v,rfl,rfl,rfl,a,cap,hV,hvb,hs,JK,ho,hb⟩:=hcut;have HVB:=Hx hvb;have HS:=Hx hs;have FA:=Hx JK;have HO:=Hx ho;have B2:=Hx hb
  have VLT:=(Gl hvb)
  clear hvb hs JK ho hb SC STA CB DO hT;have SY2:=Hs (Same Y w w2) (SY1.out.trans (λb hb=>B2.out.block b (H1.out.lt_y b hb)));by_cases hz:r.2.2=0
  case neg =>
   have E:=Hx (OR.out.trans (if_pos hz));rw[aK hz];have HZ:=Hx hz;clear hz OR;go_wp2;go_ret;rw[E.out];exact⟨by rw[aK HZ.out]; rfl,H1.out.over B2.out,SY2.out⟩
  have OR2:=Hx (OR.out.trans (if_neg (λh=>h hz)));rw[hz,aH];clear hz OR
  obtain⟨Z,hZ⟩:∃Z:Nat->Prop,Z=λc=>Y c\/(w1.heap.size<=c/\c<w2.heap.size):=⟨_,rfl⟩
  have HZ:=Hs (bR w0 n D T t Z w2) (hZ▸H1.out.more B2.out);have ZY:=Hs (∀b,Y b->Z b) (λb hb=>hZ▸Or.inl hb);have ZN:=Hs (∀b,w1.heap.size<=b->b<w2.heap.size->Z b) (λb h1 h2=>hZ▸Or.inr ⟨h1,h2⟩);clear hZ H1;obtain⟨LB,hLB⟩:=Nm (cG ce t.k.s r.1);rw[hLB]at OR2
  have LESS:=Hs (∀w',Below w2.heap.size w2 w'->∀x y,bj w' t.k.s x->Calls Tryz.prog 87 #[dh t.k.s x y,.agg #[.int .i64 r.1.gen,.slice a r.1.regs.length cap,.int .i64 r.1.typ,.int .i64 r.1.holder,.bool r.1.stays],.func (.func 44) #[] #[]] w' λe w''=>e=.returned (.bool LB)/\Below w'.heap.size w' w'') (λw' b x y h=>by
   have q:=Bm t.k.s r.1 x a y cap w' h (HS.out.below b);rw[hLB]at q
   exact q)
  have HLB:=Hx hLB;clear hLB;obtain⟨X2,m2,ki,tb,lo,hy⟩:=HZ.out
  have hT:=(Gl tb.blk)
  have SC:=Hx (λw' (b:Below w2.heap.size w2 w')=>(b.cell (p:=⟨T,0,none⟩) hT).trans (aG tb.blk tb.ok).1.1);have VB:=Hs (∀w',Below w2.heap.size w2 w'->(w'.cell? ⟨V,0,none⟩=some (.int .i64 r.1.gen)/\w'.cell? ⟨V,1,none⟩=some (.slice a r.1.regs.length cap)/\w'.cell? ⟨V,2,none⟩=some (.int .i64 r.1.typ)/\w'.cell? ⟨V,3,none⟩=some (.int .i64 r.1.holder)/\w'.cell? ⟨V,4,none⟩=some (.bool r.1.stays))) (λw' b=>(cells5 ((b.block V VLT).trans HVB.out)).1);have STA:=Hx (λw' (b:Below w2.heap.size w2 w')=>rF n w0 w' X2 D m2.K t.k (ki.over b) (by have:=GD.out.regs_len; omega));clear ki tb lo hy;obtain⟨m,hm⟩:=Nm m2;rw[hm]at SC STA;clear hm;go_upto_region 4 with fail;go_cut [30] (λv wx=>v=.bool LB/\Below w2.heap.size w2 wx)
  case first =>
   obtain⟨S,hS⟩:∃S:World->Prop,S=λw'=>Below w2.heap.size w2 w':=⟨_,rfl⟩
   have S3:∀w',Below w2.heap.size w2 w'->S w':=λw' h=>by rw[hS]; exact h
   have S4:∀w',S w'->Below w2.heap.size w2 w':=λw' h=>by rw[hS]at h; exact h
   clear hS;refine wp_region_held_drew (S:=S) (by kernel_rfl) (S3 _ (Below.refl _ _).drew) (λdT=>?_);obtain⟨wd,IB⟩:=Nn w2.drew;rw[<-IB]at dT ⊢;clear IB;refine wt 0 _ dT ?_;go_simp;refine wt 1 _ dT ?_;go_simp;refine wt 2 _ dT ?_;go_simp;refine wt 3 (.pointer (some ⟨m.K,0,none⟩)) dT ?_ (hy:=Or.inl ⟨by rfl,λw' sT=>by have hc:=SC.out w' (S4 w' sT); go_simp⟩);go_simp;refine wt 5 (.agg #[.int .i64 r.1.gen,.slice a r.1.regs.length cap,.int .i64 r.1.typ,.int .i64 r.1.holder,.bool r.1.stays]) dT ?_ (hy:=Or.inl ⟨by rfl,λw' sT=>by obtain⟨q0,q1,q2,q3,q4⟩:=VB.out w' (S4 w' sT); go_simp⟩);go_simp;refine eB 4 λKx hK=>?_;go_simp;refine(STA.out _ (S4 _ dT)).mono ?_;rintro e w1_ ⟨x1,y1,rfl,Ls,b1,fr1⟩;have HS1:=Hx Ls;have IW:=S3 _ ((S4 _ dT).trans (b1.mono (S4 _ dT).size));clear Ls b1 fr1;refine hK.out _ _ IW (λIb=>?_);clear hK Kx IW;refine eB 6 λKx hK=>?_;go_simp;refine(LESS.out _ (S4 _ Ib) _ _ HS1.out).mono ?_;rintro e w2_ ⟨rfl,b2⟩;have Je:=S3 _ ((S4 _ Ib).trans (b2.mono (S4 _ Ib).size));clear b2;refine hK.out _ _ Je (λIa=>?_);clear hK Kx Je;refine wpAnyH_done (by kernel_rfl) ?_ _;go_wp2_with fail;go_meet;exact⟨rfl,S4 _ Ia⟩
  case rest =>
  obtain⟨w3,rfl⟩:∃w3:World,w3=wc:=⟨_,rfl⟩
  obtain⟨rfl,b3⟩:=hcut;have B3:=Hx b3;have H3:=Hs (bR w0 n D T t Z w3) (HZ.out.over b3);have S3:=Hs (bj w3 r.1 a) (HS.out.below b3);have SZ3:=Hs (Same Z w2 w3) (λb hb=>b3.block b (HZ.out.lt_y b hb))
  have AZ:=Hs (∀b o,a=some ⟨b,o,none⟩->r.1.regs≠[]->Z b) (λb o e Ik=>ZN.out b (FA.out b o e) (by
   have hs:=HS.out;rw[e]at hs
   exact bj.blt hs Ik))
  have BX:=Hx (VB.out w3 b3);clear b3 LESS STA SC VB HZ;obtain⟨x,hx⟩:=Nm (if LB=true then t.next n r.1 else t.keep n t.k.ep r.1);rw[hx]at OR2;go_upto_if 30 with fail;go_cut [7] (λv wx=>v=bg x.2/\bR w0 n D T x.1 Z wx/\Same Z w3 wx)
  case first =>
   cases LB
   .rw[if_neg (by decide)]at hx;have EP:=HN.out.kg.kd.place.k.e0;obtain⟨X3,m3,ki3,tb3,lo3,hy3⟩:=H3.out;have C0:=Hs (w3.drew.cell? ⟨T,0,none⟩=some (.pointer (some ⟨m3.K,0,none⟩))) ((aG tb3.blk tb3.ok).1.1);have BXD:=Hs ((w3.drew.cell? ⟨V,0,none⟩=some (.int .i64 r.1.gen)/\w3.drew.cell? ⟨V,1,none⟩=some (.slice a r.1.regs.length cap)/\w3.drew.cell? ⟨V,2,none⟩=some (.int .i64 r.1.typ)/\w3.drew.cell? ⟨V,3,none⟩=some (.int .i64 r.1.holder)/\w3.drew.cell? ⟨V,4,none⟩=some (.bool r.1.stays))) BX.out;have EPD:=Hs (Calls Tryz.prog 66 #[.pointer (some ⟨m3.K,0,none⟩)] w3.drew λe w'=>e=.returned (.int .i64 t.k.ep)/\w'=w3.drew) (gZ n w0 w3.drew X3 D m3.K t.k ki3.drew);obtain⟨r2,JZ⟩:=Nm (t.k.keep n t.k.ep r.1)
    have KP:=Hs (Calls Tryz.prog 88 #[.pointer (some ⟨m3.K,0,none⟩),.int .i64 t.k.ep,.agg #[.int .i64 r.1.gen,.slice a r.1.regs.length cap,.int .i64 r.1.typ,.int .i64 r.1.holder,.bool r.1.stays]] w3.drew λe w'=>e=.returned (bg r2.2)/\KI n w0 X3 D m3.K r2.1 w'/\Same X3 w3.drew w') (by
     have q:=BE n w0 w3.drew X3 D m3.K t.k a cap t.k.ep r.1 ki3.drew HN.out.kg.kd.ok (by rw[HN.out.kg.kd.wait]; simp) HN.out.kg.kd.n6 (by have:=HN.out.kg.kd.p1; omega) (by have:=HN.out.num; omega) (S3.out.below (Below.refl _ _).drew) TT.out;rw[JZ]at q
     exact q)
    have VZ:=Hs (X3 V) ((hy3 V (ZN.out V hV VLT)).1);have TB3:=Hx tb3;have LO3:=Hx lo3;have KJ:=Hx hy3;have XE:=Hs (x=({ t with k:=r2.1 },r2.2)) (by rw[<-hx,<-JZ]; rfl);clear JZ hx ki3 tb3 lo3 hy3;go_upto_region 6 with fail
    go_region_held3 (λw'=>w'.cell? ⟨T,0,none⟩=some (.pointer (some ⟨m3.K,0,none⟩))/\w'.cell? ⟨V,0,none⟩=some (.int .i64 r.1.gen)/\w'.cell? ⟨V,1,none⟩=some (.slice a r.1.regs.length cap)/\w'.cell? ⟨V,2,none⟩=some (.int .i64 r.1.typ)/\w'.cell? ⟨V,3,none⟩=some (.int .i64 r.1.holder)/\w'.cell? ⟨V,4,none⟩=some (.bool r.1.stays))
     (first|exact⟨C0.out,BXD.out⟩ | assumption)
     (first|((with_reducible refine EPD.out.mono ?_); rintro e w8 ⟨rfl,rfl⟩)|((with_reducible refine KP.out.mono ?_); rintro e w8 ⟨rfl,ki8,sm8⟩; have c8:=And.intro ((World.cell?_of_block (a:=⟨T,0,none⟩) (sm8 T TB3.out.xt)).trans C0.out) ((uN (sm8 V VZ.out) BXD.out))))
    have P:=Hs (bR w0 n D T x.1 Z w8/\Same Z w3 w8) (by
     rw[XE.out]
     exact⟨⟨X3,m3,ki8,(TB3.out.same (w':=w8) (λb hb=>sm8 b hb) ki8.lt).setK r2.1,LO3.out,KJ.out⟩,λb hb=>sm8 b (KJ.out b hb).1⟩)
    clear ki8 sm8 c8;go_wp2_with fail;go_meet;exact⟨by rw[XE.out],P.out.1,P.out.2⟩
   .rw[if_pos rfl]at hx;obtain⟨y0,y1,y2,y3,y4⟩:=BX.out;have NX:=Hx (next_any w0 w3 n D T t Z r.1 a cap H3.out HN.out S3.out AZ.out TT.out);rw[hx]at NX;clear hx;go_upto_region 5 with fail;go_wp2_with fail;refine NX.out.mono ?_;rintro e w4 ⟨rfl,h4,sm4,-⟩;go_wp2_with fail;go_meet;exact⟨rfl,h4,sm4⟩
  case rest =>
  obtain⟨w5,rfl⟩:∃w5:World,w5=wc:=⟨_,rfl⟩
  obtain⟨rfl,h5,sm5⟩:=hcut;have H5:=Hx h5;have SZ5:=Hx (SZ3.out.trans sm5);have SY5:=Hs (Same Y w w5) (SY2.out.trans (λb hb=>SZ5.out b (ZY.out b hb)));clear h5 sm5 hx H3 S3 AZ BX B3 SZ3 HS FA HVB;by_cases hxz:x.2=0
  case neg =>
   have E:=Hx (OR2.out.trans (if_pos hxz));rw[aK hxz];have HXZ:=Hx hxz;clear hxz OR2;go_wp2;go_ret;rw[E.out];exact⟨by rw[aK HXZ.out]; rfl,H5.out.less ZY.out,SY5.out⟩
  have OR3:=Hx (OR2.out.trans (if_neg (λh=>h hxz)));rw[hxz,aH];clear hxz OR2;obtain⟨LT,hLT⟩:=Nm r.2.1;rw[hLT]at HO WHO OR3;clear hLT
  have LTB:LT.length<=9223372036854775807:=by
   obtain⟨-,h | ⟨g,cap,cur,e1,e2,e3,e4,e5,-⟩⟩:=HO.out
   .omega
   .unfold maxLen at e5; omega
  obtain⟨la,lc,rfl,-⟩:=HO.out.shape;have VOZ:=Hs (∀b,(Value.slice la LT.length lc).ownBlock=some b->Z b) (λb e=>ZN.out b (World.ownsRow.lt HO.out b e).1 (World.ownsRow.lt HO.out b e).2);go_wp2;go_loopw [9,50] (λu i wr=>∃k:Nat,k<=LT.length/\i=.int .i64 k/\bR w0 n D T { x.1 with b:=x.1.b.adds (LT.take k) } Z wr/\Same Z w5 wr) (λ_ i _=>LT.length - (intOf i).toNat)
  case atStart=>exact⟨0,by omega,rfl,H5.out,λ_ _=>rfl⟩
  case round =>
  obtain⟨k,hk,rfl,hR,hSm⟩:=hrel;by_cases lB:k<LT.length
  .obtain⟨X,m,ki,tb,lo,hy⟩:=hR;have HSm:=Hx hSm;have OT:bT w1.heap.size wr (.slice la LT.length lc) LT:=aV HO.out (λb e=>(SZ5.out.trans hSm) b (VOZ.out b e))
   have cells:∃g o,la=some ⟨g,o,none⟩/\wr.cell? ⟨g,o+k*2,none⟩=some (.int .i64 LT[k].1)/\wr.cell? ⟨g,o+k*2+1,none⟩=some (.int .i64 LT[k].2):=by
    obtain⟨la',lc',e,hp⟩:=OT.shape
    obtain⟨rfl,rfl⟩:la=la'/\lc=lc':=by simpa using e
    obtain⟨g,o,e,_,c1,c2⟩:=hp k lB;exact⟨g,o,e,c1,c2⟩
   obtain⟨g,o,rfl,c1,c2⟩:=cells;obtain⟨p,hp⟩:=Nm (LT[k]);rw[hp]at c1 c2;have PW:=Hs (1<=p.1/\p.1<=4) (hp▸WHO.out _ (List.getElem_mem lB));have TK:=Hs (LT.take (k+1)=LT.take k ++ [p]) (by rw[<-hp]; exact List.take_succ_eq_append_getElem lB);clear OT hSm hp;obtain⟨w6,IP⟩:=Nn (wr.alloc (.cells #[.int .i64 p.1,.int .i64 p.2] 120));have B6:=Hs (Below wr.heap.size wr w6) (IP▸ay wr _);have R6:=Hs (w6.heap[wr.heap.size]?=some (.cells #[.int .i64 p.1,.int .i64 p.2] 120 (0,0))) (IP▸heap_alloc_new wr _)
   have A6:=(Gl R6.out)
   have TB6:=Hx (tb.same (ki.same_of B6.out) (ki.over B6.out).lt);have KI6:=Hx (ki.over B6.out);have LO:=Hx lo;have HY:=Hx hy
   have hT6:=(Gl TB6.out.blk)
   have BTS:=Hs (∀w',Below w6.heap.size w6 w'->(w'.cell? ⟨T,79,none⟩=some m.b.s1.v/\w'.cell? ⟨T,80,none⟩=some m.b.s2.v/\w'.cell? ⟨T,81,none⟩=some m.b.s3.v/\w'.cell? ⟨T,82,none⟩=some m.b.s4.v)/\w'.frozen? ⟨T,79,none⟩=false/\w'.frozen? ⟨T,80,none⟩=false/\w'.frozen? ⟨T,81,none⟩=false/\w'.frozen? ⟨T,82,none⟩=false) (λw' b=>by
    obtain⟨⟨-,y1,y2,y3,y4,-⟩,-,z1,z2,z3,z4,-⟩:=aG ((b.block T hT6).trans TB6.out.blk) TB6.out.ok
    exact⟨⟨y1,y2,y3,y4⟩,z1,z2,z3,z4⟩)
   have BX4:=Hx (λw' b=>(BTS.out w' b).1);have ADD:=Hs (∀w',Below w6.heap.size w6 w'->Calls Tryz.prog 89 #[.agg #[m.b.s1.v,m.b.s2.v,m.b.s3.v,m.b.s4.v],.agg #[.int .i64 p.1,.int .i64 p.2]] w' λe w''=>∃s:Sl,e=.returned (.agg #[(m.b.set p.1 s).s1.v,(m.b.set p.1 s).s2.v,(m.b.set p.1 s).s3.v,(m.b.set p.1 s).s4.v])/\s.ok w''/\s.l=ia (m.b.get p.1).l p.2/\Below w'.heap.size w' w''/\(s=m.b.get p.1\/fB w'.heap.size w'' s.a s.l)) (λw' b=>C9 m.b p.1 p.2 w' (TB6.out.boxOk.below b) PW.out)
   have KEEPC:=Hs (∀w',Below w6.heap.size w6 w'->w'.cell? ⟨wr.heap.size,0,none⟩=some (.int .i64 p.1)/\w'.cell? ⟨wr.heap.size,1,none⟩=some (.int .i64 p.2)) (λw' b=>by
    have q:=(b.block _ A6).trans R6.out
    simp[World.cell?,q])
   have AT:wr.heap.size≠T:=λe=>by have:=ki.lt T tb.xt; omega
   have KEEPS:=Hs (∀w',Below w6.heap.size w6 w'->∀bx,(fH w' T bx).cell? ⟨wr.heap.size,0,none⟩=some (.int .i64 p.1)/\(fH w' T bx).cell? ⟨wr.heap.size,1,none⟩=some (.int .i64 p.2)) (λw' b bx=>by
    have q:=((dL (X:=(·=T)) w' rfl bx).block _ AT (Nat.lt_of_lt_of_le A6 b.size)).trans ((b.block _ A6).trans R6.out)
    simp[World.cell?,q])
   have PUTB:=Hs (∀w',Below w6.heap.size w6 w'->∀s:Sl,s.ok w'->s.l=ia (m.b.get p.1).l p.2->(s=m.b.get p.1\/fB w6.heap.size w' s.a s.l)->bR w0 n D T { x.1 with b:=x.1.b.adds (LT.take (k+1)) } Z (fH w' T (m.b.set p.1 s))/\Same Z w5 (fH w' T (m.b.set p.1 s))) (λw' b s hs hl hh=>by
    have q:=bR.setBox1 KI6.out TB6.out LO.out HY.out b PW.out s hs hh;have e1:(m.b.get p.1).l=(x.1.b.adds (LT.take k)).get p.1:=(TB6.out.box p.1).eq
    have e2:x.1.b.adds (LT.take (k+1))=(x.1.b.adds (LT.take k)).set p.1 s.l:=by rw[TK.out,hl,e1];unfold Bl.adds;rw[List.foldl_append];rfl
    rw[e2]
    exact⟨q.1,λc hc=>(q.2.1 c hc).trans ((B6.out.block c (ki.lt c (HY.out c hc).1)).trans (HSm.out c hc))⟩)
   unfold fH at KEEPS;clear ki tb lo hy AT hT6;go_upto_region 12 with fail;rw[<-IP];clear IP c1 c2
   obtain⟨S,hS⟩:∃S:World->Prop,S=λw'=>w'.cell? ⟨wr.heap.size,0,none⟩=some (.int .i64 p.1)/\w'.cell? ⟨wr.heap.size,1,none⟩=some (.int .i64 p.2):=⟨_,rfl⟩
   have S3:∀w',(w'.cell? ⟨wr.heap.size,0,none⟩=some (.int .i64 p.1)/\w'.cell? ⟨wr.heap.size,1,none⟩=some (.int .i64 p.2))->S w':=λw' h=>by rw[hS]; exact h
   have S4:∀w',S w'->(w'.cell? ⟨wr.heap.size,0,none⟩=some (.int .i64 p.1)/\w'.cell? ⟨wr.heap.size,1,none⟩=some (.int .i64 p.2)):=λw' h=>by rw[hS]at h; exact h
   clear hS;refine wp_region_held_drew (S:=S) (by kernel_rfl) (S3 _ (KEEPC.out _ (Below.refl _ _).drew)) (λdT=>?_);obtain⟨wd,IB⟩:=Nn w6.drew;rw[<-IB]at dT ⊢;have bd:Below w6.heap.size w6 wd:=IB▸(Below.refl _ _).drew;clear IB;refine wt 0 _ dT ?_;go_simp;refine wt 1 _ dT ?_;go_simp;refine wt 2 _ dT ?_;go_simp;refine wt 3 _ dT ?_;go_simp;refine wt 5 (.agg #[.int .i64 p.1,.int .i64 p.2]) dT ?_ (hy:=Or.inl ⟨by rfl,λw' sT=>by obtain⟨q0,q1⟩:=S4 w' sT; go_simp⟩);go_simp;refine eB 4 λKx hK=>?_;obtain⟨y1,y2,y3,y4⟩:=BX4.out _ bd;go_simp;clear y1 y2 y3 y4;have IW:=dT;refine hK.out _ _ IW (λIb=>?_);clear hK Kx IW;refine eB 6 λKx hK=>?_;go_simp;refine(ADD.out _ bd).mono ?_;rintro e w2_ ⟨s2,rfl,Nh,Lh,b2,hh2⟩;have bq2:Below w6.heap.size w6 w2_:=bd.trans (b2.mono bd.size);have Je:=S3 _ (KEEPC.out _ bq2);have PUT:=Hx (PUTB.out w2_ bq2 s2 Nh Lh (hh2.imp id (λh=>h.mono bd.size)));have BT:=Hx (BTS.out w2_ bq2);clear Nh Lh b2 hh2;refine hK.out _ _ Je (λIa=>?_);clear hK Kx Je;refine wt 7 _ Ia ?_;go_simp;refine wt 8 _ Ia ?_;go_simp;refine eB 9 λKx hK=>?_;obtain⟨⟨y1,y2,y3,y4⟩,z1,z2,z3,z4⟩:=BT.out;go_simp;clear y1 y2 y3 y4 z1 z2 z3 z4;have JD:=S3 _ (KEEPS.out _ bq2 (m.b.set p.1 s2));refine hK.out _ _ JD (λID=>?_);clear hK Kx JD;refine wpAnyH_done (by kernel_rfl) ?_ _;have Q1:=PUT.out;unfold fH at Q1;have Q2:=Hx Q1;clear Q1 PUT BT;go_wp2;go_roundw
   case rel=>exact⟨k+1,by omega,by go_num,Q2.out.1,Q2.out.2⟩
   case measure=>simp[intOf]; omega
  .have hkl:k=LT.length:=by omega
   subst hkl;rw[List.take_length]at hR;have HR:=Hx hR;have HSm:=Hx hSm;clear hR hSm;go_wp2;go_ret;rw[OR3.out];exact⟨rfl,HR.out.less ZY.out,SY5.out.trans (λb hb=>HSm.out b (ZY.out b hb))⟩
end
