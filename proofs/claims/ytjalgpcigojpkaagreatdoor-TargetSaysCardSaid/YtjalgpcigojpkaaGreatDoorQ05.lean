import Derived.Test.YtjalgpcigojpkaaGreatDoorQ04
set_option maxRecDepth 99999
set_option maxHeartbeats 99999999
namespace Go.Proofs.YtjalgpcigojpkaaGreatDoor
section
open Go.RowKit Go.Sort
def gV(s:St)(a:Option Addr)(cap:Nat)(r:St × List (Int × Int) × Int)(w:World)(e:Ending)(w':World):Prop :=
 ∃v,e=.returned (.tuple #[GI s a cap r.1.typ r.1.holder,v,bg r.2.2])/\bT w.heap.size w' v r.2.1/\Below w.heap.size w w'
theorem gV.mk{s:St}{a:Option Addr}{cap:Nat}{r:St × List (Int × Int) × Int}{w w':World}{e:Ending}{t:St}{l:List (Int × Int)}{f:Int}{v:Value}(hp:r=(t,l,f))(he:e=.returned (.tuple #[GI s a cap t.typ t.holder,v,bg f]))(ho:bT w.heap.size w' v l)(hb:Below w.heap.size w w'):gV s a cap r w e w':=by subst hp; exact⟨v,he,ho,hb⟩
theorem bI(B:Nat)(w:World):bT B w (.slice none 0 0) []:=⟨rfl,.inl ⟨rfl,rfl⟩⟩
theorem bT.keeps{S:Nat->Prop}{B:Nat}{w w':World}{v:Value}{l:List (Int × Int)}(h:bT B w v l)(k:ac S w w')(hS:∀k,S k->k<B):bT B w' v l:=by
 obtain⟨h1,h2⟩:=h;refine⟨h1,?_⟩
 rcases h2 with h2 | ⟨g,cap,cur,e1,e2,e3,e4⟩
 .exact .inl h2
 .refine .inr ⟨g,cap,cur,e1,e2,?_,e4⟩;rw[k.block g (λe=>by have:=hS g e; omega) (Gl e3)];exact e3
theorem Bt{W:World}{b b' N:Nat}{v0 v1 v2 v3 v4 u:Value}{T:TypeId}{cs:Array Value}{T':TypeId}(hb:b<N)(Jk:b'<N)(h:W.heap[b]?=some (.cells #[v0,v1,v2,v3,v4] T (0,0)))(h':W.heap[b']?=some (.cells cs T' (0,0)))(hu:cs[1]?=some u) : ∀w',Below N W w'->Below N W w'/\w'.cell? ⟨b,0,none⟩=some v0/\w'.cell? ⟨b,1,none⟩=some v1/\w'.cell? ⟨b,2,none⟩=some v2/\w'.cell? ⟨b,3,none⟩=some v3/\w'.cell? ⟨b,4,none⟩=some v4/\w'.cell? ⟨b',1,none⟩=some u:=by
 intro w' hw;obtain⟨⟨d0,d1,d2,d3,d4⟩,-⟩:=bP hw hb h;refine⟨hw,d0,d1,d2,d3,d4,?_⟩;have:=(hw.block b' Jk).trans h';simp[World.cell?,this,hu]
theorem ua(s:St)(a:Option Addr)(cap:Nat)(c:bG)(w:World)(hr:bj w s a)(hl:s.regs.length<=50) : Calls Tryz.prog 129 #[dh s a cap,eX c] w (gV s a cap (aL s c) w):=by
 have MP:∀o p q,bj (((w.alloc o).alloc p).alloc q) s a:=λo p q=>((hr.below (ay w o)).below (ay _ p)).below (ay _ q);have HR:=Hx MP;have HR0:=Hx hr;clear MP hr;cases hh:holds s c.who
 .have P1:=Hs (aL s c=(s,[],0)) (by unfold aL; rw[if_pos hh]);go_enter Tryz.func129,Tryz.ntmps129
  go_wp2_with fail;refine(cN s a cap c.who _ (HR.out _ _ _)).mono ?_;rintro e w1 ⟨rfl,b1⟩;rw[hh];clear hh;obtain⟨hcc,hf⟩:=dr b1;go_wp2;refine bodyPost_ret (v:=.tuple #[.agg #[.int .i64 s.gen,.slice a s.regs.length cap,.int .i64 s.typ,.int .i64 s.holder,.bool s.stays],.slice none 0 0,.nilIface]) (by simp[results,Tryz.results129,go_sem, *]) rfl ?_;refine gV.mk P1.out rfl (bI _ _) ?_
  repeat(first|with_reducible refine Below.setCell ?_ (by simp<;>omega) _ | exact(dt w _ _ _).trans (b1.mono (by simp; omega)))
 by_cases ht:s.typ=c.typ
 .have htb:(s.typ != c.typ)=false:=by simp[ht]
  by_cases h5:5<=s.typ
  .have P1:=Hs (aL s c=(s.free,az (am c.who s.regs) 2,0)) (by unfold aL; rw[if_neg (by rw[hh]; simp),if_neg (by simpa using ht),if_pos h5]);clear ht;go_enter Tryz.func129,Tryz.ntmps129
   go_wp2_with fail;refine(cN s a cap c.who _ (HR.out _ _ _)).mono ?_;rintro e w1 ⟨rfl,b1⟩;rw[hh];clear hh;have Jd:bj w1 s a:=(HR.out _ _ _).below b1
   have hN:w.heap.size+1+1<w1.heap.size:=by have:=b1.size; simp at this; omega
   have HR1:=Hx Jd;have KEEP:=Hx (Bt (W:=w1) (b:=w.heap.size) (b':=w.heap.size+1) (N:=w.heap.size+1+1) (by omega) (by omega) ((b1.block _ (by simp<;>omega)).trans (aO w _ _ _).1) ((b1.block _ (by simp<;>omega)).trans (aO w _ _ _).2.1) rfl);obtain⟨⟨d0,d1,d2,d3,d4⟩,f0,f1,f2,f3,f4⟩:=bP b1 (b:=w.heap.size) (by simp; omega) (aO w _ _ _).1;obtain⟨⟨e0,e1,e2,e3,e4⟩,g0,g1,g2,g3,g4⟩:=bP b1 (b:=w.heap.size+1+1) (by simp) (aO w _ _ _).2.2
   have u4:w1.cell? ⟨w.heap.size+1,4,none⟩=some (.int .i64 c.typ):=by have:=(b1.block (w.heap.size+1) (by simp<;>omega)).trans (aO w _ _ _).2.1;simp[World.cell?,this]
   have u1:w1.cell? ⟨w.heap.size+1,1,none⟩=some (.int .i64 c.who):=by have:=(b1.block (w.heap.size+1) (by simp<;>omega)).trans (aO w _ _ _).2.1;simp[World.cell?,this]
   have OT:=Hx (λ(w':World) (hw:bj w' s a)=>lz s.gen s.regs s.typ s.holder s.stays a cap c.who w' hw (by omega) _ rfl)
   have ol:(am c.who s.regs).length<=50:=by have:=dw c.who s.regs s.regs.length; rw[List.take_length]at this; omega
   have B1:=Hx ((dt w _ _ _).trans (b1.mono (dt w _ _ _).size));have HE:=Hx ((b1.block (w.heap.size+1+1) (by simp)).trans (aO w _ _ _).2.2);clear Jd b1;have HRN:=Hx (λ(w':World) (hb:Below (w.heap.size+1+1) w1 w')=>HR0.out.below (B1.out.trans (hb.mono (by omega))));go_wp2
   go_region_held3 (λw'=>Below (w.heap.size+1+1) w1 w'/\w'.cell? ⟨w.heap.size,0,none⟩=some (.int .i64 s.gen)/\w'.cell? ⟨w.heap.size,1,none⟩=some (.slice a s.regs.length cap)/\w'.cell? ⟨w.heap.size,2,none⟩=some (.int .i64 s.typ)/\w'.cell? ⟨w.heap.size,3,none⟩=some (.int .i64 s.holder)/\w'.cell? ⟨w.heap.size,4,none⟩=some (.bool s.stays)/\w'.cell? ⟨w.heap.size+1,1,none⟩=some (.int .i64 c.who))
    ((refine KEEP.out _ ?_; repeat(first|with_reducible exact And.left (by with_reducible assumption) | exact(Below.refl _ _).drew | (with_reducible refine Below.setCell ?_ (by simp<;>omega) _) | exact Below.trans (And.left (by assumption)) (Below.mono (by assumption) (Nat.le_trans (Nat.le_of_lt hN) (Below.size (And.left (by assumption))))))))
    (first
     | (go_at_call 132; (with_reducible refine(fw s.gen s.regs s.typ s.holder s.stays a cap _).mono ?_); rintro e w2 ⟨rfl,Ih⟩)
     | (go_at_call 131; (with_reducible refine(OT.out _ (HRN.out _ (And.left (by assumption)))).mono ?_); rintro e w3 ⟨a3,c3,rfl,Js,IK⟩)
     | (go_at_call 130; (with_reducible refine(fZ _ a3 c3 2 _ (Nat.le_trans ol (by omega)) Js).mono ?_); rintro e w4 ⟨v4,rfl,ho4,JQ⟩; have H14:Below w1.heap.size w1 w4:=(((Below.refl w1.heap.size w1).drew.trans Ih).trans (IK.mono Ih.size)).trans (JQ.mono (Nat.le_trans Ih.size IK.size)); obtain⟨⟨p0,p1,p2,p3,p4⟩,q0,q1,q2,q3,q4⟩:=bP H14 (b:=w.heap.size+1+1) hN HE.out))
   go_wp2;refine bodyPost_ret (v:=.tuple #[.agg #[.int .i64 s.gen,.slice a s.regs.length cap,.int .i64 0,.int .i64 0,.bool s.stays],v4,.nilIface]) (by simp[results,Tryz.results129,go_sem, *]) rfl ?_;have z2:w.heap.size+1+1<w3.heap.size:=Nat.lt_of_lt_of_le hN (Nat.le_trans Ih.size IK.size)
   have kp:∀w',ac (·=w.heap.size+1+1) w4 w'->gV s a cap (aL s c) w (.returned (.tuple #[.agg #[.int .i64 s.gen,.slice a s.regs.length cap,.int .i64 0,.int .i64 0,.bool s.stays],v4,.nilIface])) w':=by intro w' k;have hb:=B1.out.trans (H14.mono B1.out.size);exact gV.mk P1.out rfl ((ho4.keeps k (λm hm=>by omega)).mono (Nat.le_trans B1.out.size (Nat.le_trans Ih.size IK.size))) (hb.trans (k.below hb.size (λm hm=>by omega)))
   refine kp _ ?_;exact ac.setCell (S:=(·=w.heap.size+1+1)) (ac.setCell (S:=(·=w.heap.size+1+1)) (ac.setCell (S:=(·=w.heap.size+1+1)) (ac.setCell (S:=(·=w.heap.size+1+1)) (ac.setCell (S:=(·=w.heap.size+1+1)) (ac.refl _ _) rfl _) rfl _) rfl _) rfl _) rfl _
  .have P1:=Hs (aL s c=(s.free,[],0)) (by unfold aL; rw[if_neg (by rw[hh]; simp),if_neg (by simpa using ht),if_neg h5]);clear ht;go_enter Tryz.func129,Tryz.ntmps129
   go_wp2_with fail;refine(cN s a cap c.who _ (HR.out _ _ _)).mono ?_;rintro e w1 ⟨rfl,b1⟩;rw[hh];clear hh;obtain⟨hcc,hf⟩:=dr b1
   have hN:w.heap.size+1+1<w1.heap.size:=by have:=b1.size; simp at this; omega
   have HE:=Hx ((b1.block (w.heap.size+1+1) (by simp)).trans (aO w _ _ _).2.2);have B1:=Hx ((dt w _ _ _).trans (b1.mono (dt w _ _ _).size));go_wp2_with fail;refine(fw s.gen s.regs s.typ s.holder s.stays a cap _).mono ?_;rintro e w2 ⟨rfl,Ih⟩;obtain⟨⟨p0,p1,p2,p3,p4⟩,q0,q1,q2,q3,q4⟩:=bP Ih (b:=w.heap.size+1+1) hN HE.out;go_wp2;refine bodyPost_ret (v:=.tuple #[.agg #[.int .i64 s.gen,.slice a s.regs.length cap,.int .i64 0,.int .i64 0,.bool s.stays],.slice none 0 0,.nilIface]) (by simp[results,Tryz.results129,go_sem, *]) rfl ?_;refine gV.mk P1.out rfl (bI _ _) ?_
   repeat(first|with_reducible refine Below.setCell ?_ (by simp<;>omega) _ | exact B1.out.trans (Ih.mono B1.out.size))
 .have htb:(s.typ != c.typ)=true:=by simp[ht]
  have P1:=Hs (aL s c=(s,[],5)) (by unfold aL; rw[if_neg (by rw[hh]; simp),if_pos ht]);clear ht;go_enter Tryz.func129,Tryz.ntmps129
  go_wp2_with fail;refine(cN s a cap c.who _ (HR.out _ _ _)).mono ?_;rintro e w1 ⟨rfl,b1⟩;rw[hh];clear hh;obtain⟨hcc,hf⟩:=dr b1;go_wp2;refine bodyPost_ret (v:=.tuple #[.agg #[.int .i64 s.gen,.slice a s.regs.length cap,.int .i64 s.typ,.int .i64 s.holder,.bool s.stays],.slice none 0 0,.iface 108 (.int .i64 5)]) (by simp[results,Tryz.results129,go_sem, *]) rfl ?_;refine gV.mk P1.out rfl (bI _ _) ?_
  repeat(first|with_reducible refine Below.setCell ?_ (by simp<;>omega) _ | exact(dt w _ _ _).trans (b1.mono (by simp; omega)))
def gw(r:St × List (Int × Int))(w:World)(e:Ending)(w':World):Prop :=
 ∃a cap v,e=.returned (.tuple #[.agg #[.int .i64 r.1.gen,.slice a r.1.regs.length cap,.int .i64 r.1.typ,.int .i64 r.1.holder,.bool r.1.stays],v])/\bj w' r.1 a/\(∀b o,a=some ⟨b,o,none⟩->w.heap.size<=b)/\bT w.heap.size w' v r.2/\Below w.heap.size w w'
theorem gw.mk{r:St × List (Int × Int)}{w w':World}{e:Ending}{t:St}{l:List (Int × Int)}{a:Option Addr}{cap:Nat}{v:Value}(hp:r=(t,l))(he:e=.returned (.tuple #[.agg #[.int .i64 t.gen,.slice a t.regs.length cap,.int .i64 t.typ,.int .i64 t.holder,.bool t.stays],v]))(hs:bj w' t a)(lo:∀b o,a=some ⟨b,o,none⟩->w.heap.size<=b)(ho:bT w.heap.size w' v l)(hb:Below w.heap.size w w'):gw r w e w':=by subst hp; exact⟨a,cap,v,he,hs,lo,ho,hb⟩
theorem tc(g:Int)(l:List (Int × Int))(t h:Int)(st:Bool)(a:Option Addr)(cap:Nat)(who key:Int)(w:World)(hr:bj w ⟨g,l,t,h,st⟩ a)(hl:l.length<=50)(hw:0<=who/\who<=1000)(hb:∀r∈l,0<=r.1/\r.1<=1000)(hs:l.Pairwise (λa b=>a.1<b.1))(L:List (Int × Int))(hL:aZ l who key=L) :
  Calls Tryz.prog 162 #[.agg #[.int .i64 g,.slice a l.length cap,.int .i64 t,.int .i64 h,.bool st],.int .i64 who,.int .i64 key] w λe w'=>∃a' cap',e=.returned (.agg #[.int .i64 g,.slice a' L.length cap',.int .i64 t,.int .i64 h,.bool st])/\bj w' ⟨g,L,t,h,st⟩ a'/\(∀b o,a'=some ⟨b,o,none⟩->w.heap.size<=b)/\Below w.heap.size w w':=by
 subst hL
 exact(Dp ⟨g,l,t,h,st⟩ a cap who key w hr hl hw hb hs).mono λe w' ⟨a',cap',h1,h2,h3,h4⟩=>⟨a',cap',h1,h2,h4,h3⟩
theorem jD{S:Nat->Prop}{w w':World}{s:St}{a:Option Addr}{B:Nat}(h:bj w s a)(lo:∀b o,a=some ⟨b,o,none⟩->B<=b)(k:ac S w w')(hS:∀m,S m->m<B):bj w' s a:=by
 refine⟨h.len,λi hi=>?_⟩;obtain⟨b,o,e,hb,c1,c2⟩:=h.rep i hi;have hB:=lo b o e
 have hn:¬ S b:=λx=>by have:=hS b x; omega
 exact⟨b,o,e,Nat.lt_of_lt_of_le hb k.size,by rw[k.cell hn hb]; exact c1,by rw[k.cell hn hb]; exact c2⟩
theorem db{w:World}{s:St}{a:Option Addr}(h:bj w s a)(t:St)(e:t.regs=s.regs):bj w t a:=⟨by rw[e]; exact h.len,by rw[e]; exact h.rep⟩
theorem af{N:Nat}{a w:World}(h:ac (·=N) a w)(o:Nat)(u:Value):ac (·=N) a (w.setCell ⟨N,o,none⟩ u):=ac.setCell (S:=(·=N)) h rfl u
theorem Bv{w7:World}{o:Obj}{b' N:Nat}{v0 v1 v2 v3 v4 u:Value}{T:TypeId}(ho:o=.cells #[v0,v1,v2,v3,v4] T (0,0))(hN:N<w7.heap.size)(hb:b'≠N)(Jk:b'<w7.heap.size)(hu:w7.cell? ⟨b',1,none⟩=some u) : ∀w',ac (·=N) (w7.alloc o) w'->ac (·=N) (w7.alloc o) w'/\w'.cell? ⟨w7.heap.size,0,none⟩=some v0/\w'.cell? ⟨w7.heap.size,1,none⟩=some v1/\w'.cell? ⟨w7.heap.size,2,none⟩=some v2/\w'.cell? ⟨w7.heap.size,3,none⟩=some v3/\w'.cell? ⟨w7.heap.size,4,none⟩=some v4/\w'.cell? ⟨b',1,none⟩=some u:=by
 subst ho;intro w' k;have hX:w'.heap[w7.heap.size]?=some (.cells #[v0,v1,v2,v3,v4] T (0,0)):=(k.block _ (by omega) (by simp)).trans (heap_alloc_new _ _);obtain⟨⟨d0,d1,d2,d3,d4⟩,-⟩:=bP (Below.refl (w7.heap.size+1) w') (by omega) hX;refine⟨k,d0,d1,d2,d3,d4,?_⟩;rw[k.cell hb (by simp; omega),(ay w7 _).cell (p:=⟨b',1,none⟩) Jk];exact hu
theorem DU(s:St)(a7:Option Addr)(c7:Nat)(c:bG)(w w7:World)(L:List (Int × Int))(B7:Below w.heap.size w w7)(Nc:bj w7 ⟨s.gen,L,s.typ,s.holder,s.stays⟩ a7){n1:Nat}(lo7:∀b o,a7=some ⟨b,o,none⟩->n1<=b)(z1:w.heap.size+1+1<n1) : ∀(t h:Int) (l:List (Int × Int)) (v:Value),aR s c=(⟨s.gen,L,t,h,c.stays⟩,l)->bT w.heap.size w7 v l->∀w',ac (·=w.heap.size+1+1) w7 w'->(v=.slice none 0 0) -> gw (aR s c) w (.returned (.tuple #[.agg #[.int .i64 s.gen,.slice a7 L.length c7,.int .i64 t,.int .i64 h,.bool c.stays],v])) w':=by
 intro t h l v hp ho w' k hv;subst hv
 have hl:l=[]:=by
  have:=ho.2
  rcases this with⟨_,h⟩ | ⟨_,_,_,e,_⟩
  .exact List.length_eq_zero_iff.1 h
  .cases e
 subst hl;exact gw.mk (a:=a7) (cap:=c7) hp rfl (db (jD Nc lo7 k (λm hm=>by omega)) _ rfl) (λb o e=>by have:=lo7 b o e; omega) (bI _ _) (B7.trans (k.below B7.size (λm hm=>by omega)))
theorem uc{s:St}{a7:Option Addr}{c7:Nat}{c:bG}{w w7 w4 w':World}{L:List (Int × Int)}{l:List (Int × Int)}{v:Value}{n1 n3:Nat}(hp:aR s c=(⟨s.gen,L,0,0,c.stays⟩,l))(B7:Below w.heap.size w w7)(Nc:bj w7 ⟨s.gen,L,s.typ,s.holder,s.stays⟩ a7)(lo7:∀b o,a7=some ⟨b,o,none⟩->n1<=b)(z1:w.heap.size+1+1<n1)(k4:ac (·=w.heap.size+1+1) w7 w4)(ho:bT n3 w4 v l)(z2:w.heap.size+1+1<n3)(zw:w.heap.size<=n3)(k:ac (·=w.heap.size+1+1) w4 w') : gw (aR s c) w (.returned (.tuple #[.agg #[.int .i64 s.gen,.slice a7 L.length c7,.int .i64 0,.int .i64 0,.bool c.stays],v])) w' :=
 gw.mk (a:=a7) (cap:=c7) hp rfl (db (jD Nc lo7 (k4.trans k) (λm hm=>by omega)) _ rfl) (λb o e=>by have:=lo7 b o e; omega) ((ho.keeps k (λm hm=>by omega)).mono zw) (B7.trans ((k4.trans k).below B7.size (λm hm=>by omega)))
theorem rP(s:St)(a:Option Addr)(cap:Nat)(c:bG)(w:World)(hr:bj w s a)(hl:s.regs.length<=40)(hw:0<=c.who/\c.who<=1000)(JR:∀r∈s.regs,0<=r.1/\r.1<=1000)(hs0:s.regs.Pairwise (λa b=>a.1<b.1)) :
  Calls Tryz.prog 127 #[dh s a cap,eX c] w (gw (aR s c) w):=by
 have hq:=λ(o p q:Obj)=>cH (Below.refl (((w.alloc o).alloc p).alloc q).heap.size (((w.alloc o).alloc p).alloc q));have hqr:∀o p q d os,bj (Sort.grow (redrawn (((w.alloc o).alloc p).alloc q) d) os) s a:=λo p q d os=>(hr.below (dt w o p q)).below (below_regrown _ d os);obtain⟨L,hL⟩:=Nm (aZ s.regs c.who c.new);have HLS:=Hx hL
 have hLl:L.length<=41:=by have:=td s.regs c.who c.new; rw[hL]at this; omega
 have HR0:=Hx hr;have IY:=Hx JR;have HS0:=Hx hs0
 have PR:=Hx (show aR s c=(if 0<c.new\/holds s c.who=false then(⟨s.gen,L,s.typ,s.holder,c.stays⟩,[])
  else if allT s.typ=true/\0<L.length then(⟨s.gen,L,s.typ,s.holder,c.stays⟩,[])
  else if s.typ=5\/s.typ=6 then(⟨s.gen,L,0,0,c.stays⟩,az (am c.who L) 2)
  else(⟨s.gen,L,0,0,c.stays⟩,[])) from by rw[<-hL]; rfl)
 clear hL hr JR hs0;go_enter Tryz.func127,Tryz.ntmps127
 go_wp2;refine wp_region_quiet_below (by kernel_rfl) (by kernel_rfl) ?_
 repeat(go_big_quiet_step (first|exact Calls.regrown_of (cN s a cap c.who _ (hqr _ _ _ _ _)) | exact Calls.regrown_of (cS s a cap _)))
 refine wpQuiet_nil ?_;rintro w1 ⟨⟨dq,osq⟩,pX⟩;have b1:=pX▸below_regrown _ dq osq;clear hq hqr;have Jd:bj w1 s a:=HR0.out.below ((dt w _ _ _).trans (b1.mono (dt w _ _ _).size));obtain⟨hcc,hf⟩:=dr b1;clear pX;go_wp2_with fail;refine(tc s.gen s.regs s.typ s.holder s.stays a cap c.who c.new _ Jd (by omega) hw IY.out HS0.out L HLS.out).mono ?_;rintro e w7 ⟨a7,c7,rfl,Nc,lo7,h7⟩;have b7:=b1.trans (h7.mono b1.size)
 have z7:w.heap.size+1+1<w7.heap.size:=by have:=b7.size; simp at this; omega
 have z71:w.heap.size+1+1<w1.heap.size:=by have:=b1.size; simp at this; omega
 have z72:w.heap.size+1<w7.heap.size:=by omega
 have z73:w.heap.size<w7.heap.size:=by omega
 obtain⟨⟨d0,d1,d2,d3,d4⟩,-⟩:=bP b7 (b:=w.heap.size) (by simp<;>omega) (aO w _ _ _).1;obtain⟨⟨e0,e1,e2,e3,e4⟩,g0,g1,g2,g3,g4⟩:=bP b7 (b:=w.heap.size+1+1) (by simp<;>omega) (aO w _ _ _).2.2;have MY:=(b7.block (w.heap.size+1) (by simp<;>omega)).trans (aO w _ _ _).2.1
 have k1:w7.cell? ⟨w.heap.size+1,1,none⟩=some (.int .i64 c.who):=by simp[World.cell?,MY]
 have k3:w7.cell? ⟨w.heap.size+1,3,none⟩=some (.int .i64 c.new):=by simp[World.cell?,MY]
 have k6:w7.cell? ⟨w.heap.size+1,6,none⟩=some (.bool c.stays):=by simp[World.cell?,MY]
 have B7:=Hx ((dt w _ _ _).trans (b7.mono (dt w _ _ _).size));have HS7:=Hx Nc;have LO7:=Hx lo7;have HE:=Hx ((b7.block (w.heap.size+1+1) (by simp<;>omega)).trans (aO w _ _ _).2.2);clear hcc hf b1 b7 h7 Jd Nc lo7 MY;have FIN:=Hx (DU s a7 c7 c w w7 L B7.out HS7.out LO7.out z71);by_cases hn:0<c.new
 .have P1:=Hx (PR.out.trans (if_pos (.inl hn)));clear PR;go_wp2;refine bodyPost_ret (v:=.tuple #[.agg #[.int .i64 s.gen,.slice a7 L.length c7,.int .i64 s.typ,.int .i64 s.holder,.bool c.stays],.slice none 0 0]) (by simp[results,Tryz.results127,go_sem, *]) rfl ?_;refine FIN.out _ _ _ _ P1.out (bI _ _) _ ?_ rfl
  repeat(first|with_reducible exact ac.refl _ _ | (with_reducible refine ac.drew ?_)|(with_reducible refine ac.alloc ?_ _)|(with_reducible refine af ?_ _ _))
 cases hh:holds s c.who
 .have P1:=Hx (PR.out.trans (if_pos (.inr hh)));clear PR;go_wp2;refine bodyPost_ret (v:=.tuple #[.agg #[.int .i64 s.gen,.slice a7 L.length c7,.int .i64 s.typ,.int .i64 s.holder,.bool c.stays],.slice none 0 0]) (by simp[results,Tryz.results127,go_sem, *]) rfl ?_;refine FIN.out _ _ _ _ P1.out (bI _ _) _ ?_ rfl
  repeat(first|with_reducible exact ac.refl _ _ | (with_reducible refine ac.drew ?_)|(with_reducible refine ac.alloc ?_ _)|(with_reducible refine af ?_ _ _))
 have PR2:=Hx (PR.out.trans (if_neg (by rw[hh]; simp; omega)));clear PR;cases ha:allT s.typ
 .by_cases h56:s.typ=5\/s.typ=6
  .have P1:=Hx (PR2.out.trans ((if_neg (by rw[ha]; simp)).trans (if_pos h56)));have hEN:=cU (.cells #[.int .i64 s.gen,.slice a7 L.length c7,.int .i64 s.typ,.int .i64 s.holder,.bool c.stays] 34) HE.out;have HEN:=Hx hEN;have HRN:=Hx (λ(w':World) (k:ac (·=w.heap.size+1+1) (w7.alloc (.cells #[.int .i64 s.gen,.slice a7 L.length c7,.int .i64 s.typ,.int .i64 s.holder,.bool c.stays] 34)) w')=>db (jD HS7.out LO7.out ((ac.alloc (ac.refl (·=w.heap.size+1+1) w7) _).trans k) (λm hm=>by omega)) ⟨s.gen,L,s.typ,s.holder,c.stays⟩ rfl);have OT:=Hx (λ(w':World) (hw:bj w' ⟨s.gen,L,s.typ,s.holder,c.stays⟩ a7)=>lz s.gen L s.typ s.holder c.stays a7 c7 c.who w' hw (by omega) _ rfl)
   have ol:(am c.who L).length<=50:=by have:=dw c.who L L.length; rw[List.take_length]at this; omega
   have KEEP:=Hx (Bv (N:=w.heap.size+1+1) (b':=w.heap.size+1) (o:=.cells #[.int .i64 s.gen,.slice a7 L.length c7,.int .i64 s.typ,.int .i64 s.holder,.bool c.stays] 34) (w7:=w7) rfl z7 (by omega) z72 k1)
   have hN8:w.heap.size+1+1<(w7.alloc (.cells #[.int .i64 s.gen,.slice a7 L.length c7,.int .i64 s.typ,.int .i64 s.holder,.bool c.stays] 34)).heap.size:=by simp; omega
   clear PR2 hEN
   rcases h56 with h5 | h6
   .have t5:(s.typ == 5)=true:=by simp[h5]
    clear h5;go_wp2
    go_region_held3 (λw'=>ac (·=w.heap.size+1+1) (w7.alloc (.cells #[.int .i64 s.gen,.slice a7 L.length c7,.int .i64 s.typ,.int .i64 s.holder,.bool c.stays] 34)) w'/\w'.cell? ⟨w7.heap.size,0,none⟩=some (.int .i64 s.gen)/\w'.cell? ⟨w7.heap.size,1,none⟩=some (.slice a7 L.length c7)/\w'.cell? ⟨w7.heap.size,2,none⟩=some (.int .i64 s.typ)/\w'.cell? ⟨w7.heap.size,3,none⟩=some (.int .i64 s.holder)/\w'.cell? ⟨w7.heap.size,4,none⟩=some (.bool c.stays)/\w'.cell? ⟨w.heap.size+1,1,none⟩=some (.int .i64 c.who))
     ((refine KEEP.out _ ?_; repeat(first|with_reducible exact And.left (by with_reducible assumption) | exact(ac.refl _ _).drew | (with_reducible refine af ?_ _ _) | exact ac.trans (And.left (by assumption)) (ac.of_below (by assumption)))))
     (first
      | (go_at_call 132; (with_reducible refine(fw s.gen L s.typ s.holder c.stays a7 c7 _).mono ?_); rintro e w2 ⟨rfl,Ih⟩)
      | (go_at_call 131; (with_reducible refine(OT.out _ (HRN.out _ (And.left (by assumption)))).mono ?_); rintro e w3 ⟨a3,c3,rfl,Js,IK⟩)
      | (go_at_call 130; (with_reducible refine(fZ _ a3 c3 2 _ (Nat.le_trans ol (by omega)) Js).mono ?_); rintro e w4 ⟨v4,rfl,ho4,JQ⟩; have H14:Below (w7.alloc (.cells #[.int .i64 s.gen,.slice a7 L.length c7,.int .i64 s.typ,.int .i64 s.holder,.bool c.stays] 34)).heap.size (w7.alloc (.cells #[.int .i64 s.gen,.slice a7 L.length c7,.int .i64 s.typ,.int .i64 s.holder,.bool c.stays] 34)) w4:=(((Below.refl _ _).drew.trans Ih).trans (IK.mono Ih.size)).trans (JQ.mono (Nat.le_trans Ih.size IK.size)); obtain⟨⟨p0,p1,p2,p3,p4⟩,q0,q1,q2,q3,q4⟩:=bP H14 (b:=w.heap.size+1+1) hN8 HEN.out))
    go_wp2;refine bodyPost_ret (v:=.tuple #[.agg #[.int .i64 s.gen,.slice a7 L.length c7,.int .i64 0,.int .i64 0,.bool c.stays],v4]) (by simp[results,Tryz.results127,go_sem, *]) rfl ?_;have z2:w.heap.size+1+1<w3.heap.size:=Nat.lt_of_lt_of_le hN8 (Nat.le_trans Ih.size IK.size)
    have zw:w.heap.size<=w3.heap.size:=by omega
    refine uc P1.out B7.out HS7.out LO7.out z71 ((ac.alloc (ac.refl (·=w.heap.size+1+1) w7) _).trans (ac.of_below H14)) ho4 z2 zw ?_;exact ac.setCell (S:=(·=w.heap.size+1+1)) (ac.setCell (S:=(·=w.heap.size+1+1)) (ac.setCell (S:=(·=w.heap.size+1+1)) (ac.setCell (S:=(·=w.heap.size+1+1)) (ac.setCell (S:=(·=w.heap.size+1+1)) (ac.refl _ _) rfl _) rfl _) rfl _) rfl _) rfl _
   .have t5:(s.typ == 5)=false:=by simp; omega
    have t6:(s.typ == 6)=true:=by simp[h6]
    clear h6;go_wp2
    go_region_held3 (λw'=>ac (·=w.heap.size+1+1) (w7.alloc (.cells #[.int .i64 s.gen,.slice a7 L.length c7,.int .i64 s.typ,.int .i64 s.holder,.bool c.stays] 34)) w'/\w'.cell? ⟨w7.heap.size,0,none⟩=some (.int .i64 s.gen)/\w'.cell? ⟨w7.heap.size,1,none⟩=some (.slice a7 L.length c7)/\w'.cell? ⟨w7.heap.size,2,none⟩=some (.int .i64 s.typ)/\w'.cell? ⟨w7.heap.size,3,none⟩=some (.int .i64 s.holder)/\w'.cell? ⟨w7.heap.size,4,none⟩=some (.bool c.stays)/\w'.cell? ⟨w.heap.size+1,1,none⟩=some (.int .i64 c.who))
     ((refine KEEP.out _ ?_; repeat(first|with_reducible exact And.left (by with_reducible assumption) | exact(ac.refl _ _).drew | (with_reducible refine af ?_ _ _) | exact ac.trans (And.left (by assumption)) (ac.of_below (by assumption)))))
     (first
      | (go_at_call 132; (with_reducible refine(fw s.gen L s.typ s.holder c.stays a7 c7 _).mono ?_); rintro e w2 ⟨rfl,Ih⟩)
      | (go_at_call 131; (with_reducible refine(OT.out _ (HRN.out _ (And.left (by assumption)))).mono ?_); rintro e w3 ⟨a3,c3,rfl,Js,IK⟩)
      | (go_at_call 130; (with_reducible refine(fZ _ a3 c3 2 _ (Nat.le_trans ol (by omega)) Js).mono ?_); rintro e w4 ⟨v4,rfl,ho4,JQ⟩; have H14:Below (w7.alloc (.cells #[.int .i64 s.gen,.slice a7 L.length c7,.int .i64 s.typ,.int .i64 s.holder,.bool c.stays] 34)).heap.size (w7.alloc (.cells #[.int .i64 s.gen,.slice a7 L.length c7,.int .i64 s.typ,.int .i64 s.holder,.bool c.stays] 34)) w4:=(((Below.refl _ _).drew.trans Ih).trans (IK.mono Ih.size)).trans (JQ.mono (Nat.le_trans Ih.size IK.size)); obtain⟨⟨p0,p1,p2,p3,p4⟩,q0,q1,q2,q3,q4⟩:=bP H14 (b:=w.heap.size+1+1) hN8 HEN.out))
    go_wp2;refine bodyPost_ret (v:=.tuple #[.agg #[.int .i64 s.gen,.slice a7 L.length c7,.int .i64 0,.int .i64 0,.bool c.stays],v4]) (by simp[results,Tryz.results127,go_sem, *]) rfl ?_;have z2:w.heap.size+1+1<w3.heap.size:=Nat.lt_of_lt_of_le hN8 (Nat.le_trans Ih.size IK.size)
    have zw:w.heap.size<=w3.heap.size:=by omega
    refine uc P1.out B7.out HS7.out LO7.out z71 ((ac.alloc (ac.refl (·=w.heap.size+1+1) w7) _).trans (ac.of_below H14)) ho4 z2 zw ?_;exact ac.setCell (S:=(·=w.heap.size+1+1)) (ac.setCell (S:=(·=w.heap.size+1+1)) (ac.setCell (S:=(·=w.heap.size+1+1)) (ac.setCell (S:=(·=w.heap.size+1+1)) (ac.setCell (S:=(·=w.heap.size+1+1)) (ac.refl _ _) rfl _) rfl _) rfl _) rfl _) rfl _
  .have P1:=Hx (PR2.out.trans ((if_neg (by rw[ha]; simp)).trans (if_neg h56)))
   have t5:(s.typ == 5)=false:=by simp; omega
   have t6:(s.typ == 6)=false:=by simp; omega
   clear PR2 h56;go_wp2_with fail;refine(fw s.gen L s.typ s.holder c.stays a7 c7 _).mono ?_;rintro e w8 ⟨rfl,hb8⟩;obtain⟨⟨p0,p1,p2,p3,p4⟩,q0,q1,q2,q3,q4⟩:=bP hb8 (b:=w.heap.size+1+1) (by simp; omega) (cU _ HE.out);go_wp2;refine bodyPost_ret (v:=.tuple #[.agg #[.int .i64 s.gen,.slice a7 L.length c7,.int .i64 0,.int .i64 0,.bool c.stays],.slice none 0 0]) (by simp[results,Tryz.results127,go_sem, *]) rfl ?_;refine FIN.out _ _ _ _ P1.out (bI _ _) _ ?_ rfl
   repeat(first|with_reducible exact ac.refl _ _ | (with_reducible refine ac.drew ?_) | exact(ac.alloc (ac.refl _ _) _).trans (ac.of_below hb8)|(with_reducible refine af ?_ _ _))
 .have hty:s.typ=7\/s.typ=8:=by simpa[allT] using ha
  by_cases hL0:0<L.length
  .have P1:=Hx (PR2.out.trans (if_pos ⟨ha,hL0⟩));clear PR2 hty;go_wp2;refine bodyPost_ret (v:=.tuple #[.agg #[.int .i64 s.gen,.slice a7 L.length c7,.int .i64 s.typ,.int .i64 s.holder,.bool c.stays],.slice none 0 0]) (by simp[results,Tryz.results127,go_sem, *]) rfl ?_;refine FIN.out _ _ _ _ P1.out (bI _ _) _ ?_ rfl
   repeat(first|with_reducible exact ac.refl _ _ | (with_reducible refine ac.drew ?_)|(with_reducible refine ac.alloc ?_ _)|(with_reducible refine af ?_ _ _))
  .have P1:=Hx (PR2.out.trans ((if_neg (λx=>hL0 x.2)).trans (if_neg (by omega))))
   have t5:(s.typ == 5)=false:=by simp; omega
   have t6:(s.typ == 6)=false:=by simp; omega
   clear PR2 hty;go_wp2_with fail;refine(fw s.gen L s.typ s.holder c.stays a7 c7 _).mono ?_;rintro e w8 ⟨rfl,hb8⟩;obtain⟨⟨p0,p1,p2,p3,p4⟩,q0,q1,q2,q3,q4⟩:=bP hb8 (b:=w.heap.size+1+1) (by simp; omega) (cU _ HE.out);go_wp2;refine bodyPost_ret (v:=.tuple #[.agg #[.int .i64 s.gen,.slice a7 L.length c7,.int .i64 0,.int .i64 0,.bool c.stays],.slice none 0 0]) (by simp[results,Tryz.results127,go_sem, *]) rfl ?_;refine FIN.out _ _ _ _ P1.out (bI _ _) _ ?_ rfl
   repeat(first|with_reducible exact ac.refl _ _ | (with_reducible refine ac.drew ?_) | exact(ac.alloc (ac.refl _ _) _).trans (ac.of_below hb8)|(with_reducible refine af ?_ _ _))
theorem lN(who key:Int)(l:List (Int × Int))(k:Nat)(h:k<l.length)(e:io who key l[k]=false):aD who key (l.take (k+1))=aD who key (l.take k):=by unfold aD;rw[List.take_succ_eq_append_getElem h,List.filter_append,List.filter_cons_of_neg (by simp[e])];simp
theorem mr(who key:Int)(l:List (Int × Int))(k:Nat)(h:k<l.length)(e:io who key l[k]=true):aD who key (l.take (k+1))=aD who key (l.take k) ++ [l[k].1]:=by unfold aD;rw[List.take_succ_eq_append_getElem h,List.filter_append,List.filter_cons_of_pos (by simp[e])];simp
theorem pm(who key:Int)(l:List (Int × Int)):(aD who key l).length<=l.length:=by unfold aD;rw[List.length_map];exact List.length_filter_le _ _
theorem BV(who key:Int)(l:List (Int × Int))(P:Int->Prop)(h:∀r∈l,P r.1):∀x∈aD who key l,P x:=by intro x hx;unfold aD at hx;obtain⟨r,hr,rfl⟩:=List.mem_map.1 hx;exact h r (List.mem_filter.1 hr).1
theorem ug(L:List (Int × Int))(G:List Int)(j:Nat)(h:j<G.length):putOut (aZ L G[j] 0) (G.drop (j+1))=putOut L (G.drop j):=by rw[List.drop_eq_getElem_cons h]; rfl
theorem vE(L:List (Int × Int))(G:List Int)(j:Nat)(h:G.length<=j):putOut L (G.drop j)=L:=by rw[List.drop_of_length_le h]; rfl
structure sX (l:List (Int × Int)) (n:Nat):Prop where
 len:l.length<=n
 bound:∀r∈l,0<=r.1/\r.1<=1000
 sort:l.Pairwise (λa b=>a.1<b.1)
theorem sX.without{l:List (Int × Int)}{n:Nat}(h:sX l n)(who:Int):sX (aZ l who 0) n:=by
 have e:aZ l who 0=l.filter (λr=>decide (r.1≠who)):=by
  unfold aZ; rw[if_neg (by omega)]; unfold Go.Proofs.YtjalgpcigojpkaaGreatDoor.without
  congr 1; funext r; by_cases hr:r.1=who<;>simp[hr]
 rw[e];exact⟨Nat.le_trans (List.length_filter_le _ _) h.len,λr hr=>h.bound r (List.mem_filter.1 hr).1,h.sort.sublist List.filter_sublist⟩
def xP(s:St)(a:Option Addr)(who key:Int)(w:World)(e:Ending)(w':World):Prop :=
 ∃a' cap' v,e=.returned (.tuple #[.agg #[.int .i64 s.gen,.slice a' (putOut s.regs (aD who key s.regs)).length cap',.int .i64 s.typ,.int .i64 s.holder,.bool s.stays],v]) /\
  bj w' ⟨s.gen,putOut s.regs (aD who key s.regs),s.typ,s.holder,s.stays⟩ a'/\(a'=a\/∀b o,a'=some ⟨b,o,none⟩->w.heap.size<=b)/\bh w.heap.size w' v (aD who key s.regs)/\Below w.heap.size w w'
def Gf(g:Int)(t h:Int)(st:Bool)(a:Option Addr)(F:List (Int × Int))(G:List Int)(N:Nat)(w0:World)(i:Value)(wz:World):Prop :=
 ∃(j:Nat) (L:List (Int × Int)) (a2:Option Addr) (c2:Nat),j<=G.length/\i=.int .i64 j/\putOut L (G.drop j)=F/\sX L 40/\bj wz ⟨g,L,t,h,st⟩ a2/\(a2=a\/∀b o,a2=some ⟨b,o,none⟩->N+2<=b) /\
  wz.heap[N]?=some (.cells #[.int .i64 g,.slice a2 L.length c2,.int .i64 t,.int .i64 h,.bool st] 34 (0,0))/\ac (·=N) w0 wz
theorem DZ{g:Int}{l L:List (Int × Int)}{t h who key:Int}{st:Bool}{a a2 ag:Option Addr}{cz cg:Nat}{G:List Int}{w wo wr w':World}(hG:G=aD who key l)(hL:L=putOut l G)(hS:bj wr ⟨g,L,t,h,st⟩ a2)(hA:a2=a\/∀b o,a2=some ⟨b,o,none⟩->w.heap.size+2<=b)(ho:bh (w.heap.size+2) wo (.slice ag G.length cg) G)(hw:Below w.heap.size w wo)(k:ac (·=w.heap.size) wo wr)(k2:ac (·=w.heap.size+1) wr w')(hR:bj w ⟨g,l,t,h,st⟩ a) : xP ⟨g,l,t,h,st⟩ a who key w (.returned (.tuple #[.agg #[.int .i64 g,.slice a2 L.length cz,.int .i64 t,.int .i64 h,.bool st],.slice ag G.length cg])) w':=by
 subst hG hL;have hbr:Below w.heap.size w wr:=hw.trans (k.below hw.size (λm hm=>by omega));have hb:Below w.heap.size w w':=hbr.trans (k2.below hbr.size (λm hm=>by omega));refine⟨a2,cz,_,rfl,?_,hA.imp id (λh b o e=>by have:=h b o e; omega),?_,hb⟩
 .refine⟨hS.len,λi hi=>?_⟩;obtain⟨b,o,e,wC,c1,c2⟩:=hS.rep i hi
  have hn:b≠w.heap.size+1:=by
   rcases hA with rfl | hA
   .have hl:0<l.length:=by
     have L6:i<(putOut l (aD who key l)).length:=hi;rw[dZ]at L6;have:=List.length_filter_le (λr=>!(aD who key l).contains r.1) l;omega
    obtain⟨b',o',e',Jk,-⟩:=hR.rep 0 hl;rw[e]at e';cases e'
    omega
   .have:=hA b o e; omega
  exact⟨b,o,e,Nat.lt_of_lt_of_le wC k2.size,by rw[k2.cell hn wC]; exact c1,by rw[k2.cell hn wC]; exact c2⟩
 .exact((ho.keeps k (λm hm=>by omega)).keeps k2 (λm hm=>by omega)).mono (by omega)
theorem D3(s:St)(a:Option Addr)(cap:Nat)(who key:Int)(w:World)(hr:bj w s a)(hl:sX s.regs 40) : Calls Tryz.prog 163 #[dh s a cap,.int .i64 who,.int .i64 key] w (xP s a who key w):=by
 obtain⟨g,l,t,h,st⟩:=s;have HR:=Hx hr;obtain⟨_,hp⟩:=hr;have hlen:=hl.len;dsimp only at hl hp hlen;have HL:=Hx hl;have HP:=Hx hp;clear hl;obtain⟨i0,hi,Ij,Ii,Im⟩:=info_parts Tryz.infoInt;go_enter Tryz.func163,Tryz.ntmps163
 go_wp2;go_loopw [8,16] (λv i wr=>∃k:Nat,k<=l.length/\i=.int .i64 k/\bh (w.heap.size+2) wr v (aD who key (l.take k))/\Below (w.heap.size+2) ((w.alloc (.cells #[.int .i64 g,.slice a l.length cap,.int .i64 t,.int .i64 h,.bool st] 34)).alloc (.cells #[.int .i64 0,.slice none 0 0,.int .i64 0,.int .i64 0,.bool false] 34)) wr) (λ_ i _=>l.length - (intOf i).toNat)
 case atStart=>exact⟨0,by omega,rfl,⟨rfl,.inl ⟨rfl,rfl⟩⟩,Below.refl _ _⟩
 case round =>
  obtain⟨k,hk,rfl,ec,hb⟩:=hrel;have Ie:=Hx ec;have Iy:=Hx ec.blk;clear ec
  have hs:w.heap.size+2<=wr.heap.size:=by have:=hb.size; simp at this; omega
  have JR:Below w.heap.size w wr:=(((ay w _).alloc (by simp) _)).trans (hb.mono (by omega));have MS:(aD who key (l.take k)).length<=k:=Nat.le_trans (pm who key _) (by simp; omega);by_cases lB:k<l.length
  .obtain⟨b,o,rfl,Ix,h1,h2⟩:=HP.out k lB;have c1:=(JR.cell (p:=⟨b,o+k*2,none⟩) Ix).trans h1;have c2:=(JR.cell (p:=⟨b,o+k*2+1,none⟩) Ix).trans h2;clear h1 h2 hp;by_cases hw:l[k].1=who
   .have Iz:(l[k].1 != who)=false:=by simp[hw]
    have HE:=Hx (lN who key l k lB (by simp[io,hw]));clear hw;go_wp2;go_roundw
    case rel=>exact⟨k+1,by omega,by go_num,by rw[HE.out]; exact Ie.out.below (ay _ _),hb.alloc (by omega) _⟩
    case measure=>simp[intOf]; omega
   have Iz:(l[k].1 != who)=true:=by simp[hw]
   by_cases hz:key=0
   .have hzb:(key == 0)=true:=by simp[hz]
    have HE:=Hx (mr who key l k lB (by simp[io,hw,hz]));clear hw hz;go_wp2_with (at_builtin; refine wpList_append_own _ rfl _ _ 71 rfl (w.heap.size+2) 3 i0 (.int .i64 0) 1 8 Tryz.underlying71 hi Ij Ii Im rfl (by decide) _ _ _ rfl ((Ie.out.alloc _).alloc _) ⟨wr.heap.size+1,0,none⟩ 1 1 [.int .i64 l[k].1] rfl rfl ?c1 ?c2 ?c3 ?c4 ?c5 ?_)
    case c1 =>
     intro j u hj
     match j,hj with
     | 0,hj=>simp at hj; subst hj; simp[Addr.add]
    case c2=>intro u hu; simp at hu; subst hu; rfl
    case c3=>unfold maxLen; omega
    case c4=>omega
    case c5=>simp; omega
    intro v' w1 jZ Il _;have wC:Below (w.heap.size+2) ((w.alloc (.cells #[.int .i64 g,.slice (some ⟨b,o,none⟩) l.length cap,.int .i64 t,.int .i64 h,.bool st] 34)).alloc (.cells #[.int .i64 0,.slice none 0 0,.int .i64 0,.int .i64 0,.bool false] 34)) w1:=((hb.alloc (by omega) _).alloc (by simp; omega) _).grown Il (by simp; omega) Iy.out;have M9:=Hx jZ;clear jZ Il;go_wp2;go_roundw
    case rel=>exact⟨k+1,by omega,by go_num,by rw[HE.out]; simpa[bh] using M9.out,wC⟩
    case measure=>simp[intOf]; omega
   have hzb:(key == 0)=false:=by simp[hz]
   by_cases hk2:l[k].2=key
   .have Ly:(l[k].2 == key)=true:=by simp[hk2]
    have HE:=Hx (mr who key l k lB (by simp[io,hw,hk2]));clear hw hz hk2;go_wp2_with (at_builtin; refine wpList_append_own _ rfl _ _ 71 rfl (w.heap.size+2) 3 i0 (.int .i64 0) 1 8 Tryz.underlying71 hi Ij Ii Im rfl (by decide) _ _ _ rfl ((Ie.out.alloc _).alloc _) ⟨wr.heap.size+1,0,none⟩ 1 1 [.int .i64 l[k].1] rfl rfl ?c1 ?c2 ?c3 ?c4 ?c5 ?_)
    case c1 =>
     intro j u hj
     match j,hj with
     | 0,hj=>simp at hj; subst hj; simp[Addr.add]
    case c2=>intro u hu; simp at hu; subst hu; rfl
    case c3=>unfold maxLen; omega
    case c4=>omega
    case c5=>simp; omega
    intro v' w1 jZ Il _;have wC:Below (w.heap.size+2) ((w.alloc (.cells #[.int .i64 g,.slice (some ⟨b,o,none⟩) l.length cap,.int .i64 t,.int .i64 h,.bool st] 34)).alloc (.cells #[.int .i64 0,.slice none 0 0,.int .i64 0,.int .i64 0,.bool false] 34)) w1:=((hb.alloc (by omega) _).alloc (by simp; omega) _).grown Il (by simp; omega) Iy.out;have M9:=Hx jZ;clear jZ Il;go_wp2;go_roundw
    case rel=>exact⟨k+1,by omega,by go_num,by rw[HE.out]; simpa[bh] using M9.out,wC⟩
    case measure=>simp[intOf]; omega
   .have Ly:(l[k].2 == key)=false:=by simp[hk2]
    have HE:=Hx (lN who key l k lB (by simp[io,hz,hk2]));clear hw hz hk2;go_wp2;go_roundw
    case rel=>exact⟨k+1,by omega,by go_num,by rw[HE.out]; exact Ie.out.below (ay _ _),hb.alloc (by omega) _⟩
    case measure=>simp[intOf]; omega
  .have HKL:=Hs (aD who key (l.take k)=aD who key l) (by rw[List.take_of_length_le (by omega)]);obtain⟨ag,cg,rfl,-⟩:=Ie.out.shape;have HG:=Hx Ie.out.hi;have IY:=Hx ((hb.block w.heap.size (by omega)).trans (heap_alloc2_old w _ _));have HBZ:=Hx ((hb.block (w.heap.size+1) (by omega)).trans (heap_alloc2_new w _ _));have HS0:=Hs (bj wr ⟨g,l,t,h,st⟩ a) (⟨HR.out.len,(HP.out.below JR (Nat.le_refl _)).mono JR.size⟩);have HW0:=Hx JR
   obtain⟨wo,rfl⟩:∃wo:World,wo=wr:=⟨_,rfl⟩
   obtain⟨G,hG⟩:=Nm (aD who key (l.take k));rw[hG]at HKL Ie HG MS;have GB:=Hs (∀x∈G,0<=x/\x<=1000) (hG▸BV who key (l.take k) _ (λr hr=>HL.out.bound r (List.mem_of_mem_take hr)))
   have gl:G.length<=40:=by omega
   clear hb JR hp Iy;rw[hG];clear hG;go_wp2;go_loopw [42] (λi wz=>Gf g t h st a (putOut l G) G w.heap.size wo i wz) (λi _=>G.length - (intOf i).toNat)
   case atStart=>exact⟨0,l,a,cap,by omega,rfl,rfl,HL.out,HS0.out,.inl rfl,IY.out,ac.refl _ _⟩
   case round =>
    obtain⟨j,L,a2,cz,hj,rfl,hF,hLF,hS,hA,hB,hk⟩:=hrel;have HF:=Hx hF;have HLF:=Hx hLF;have HS:=Hx hS;have HA:=Hx hA;have HB:=Hx hB;have HK:=Hx hk;clear hF hLF hS hA hB hk;have hsz:wo.heap.size<=wr.heap.size:=HK.out.size
    have hlt0:w.heap.size<wr.heap.size:=by omega
    obtain⟨⟨d0,d1,d2,d3,d4⟩,f0,f1,f2,f3,f4⟩:=bP (Below.refl wr.heap.size wr) hlt0 HB.out;by_cases hgt:j<G.length
    .obtain⟨b,o,rfl,wC,Ih,c1⟩:=HG.out j hgt;have c2:=(HK.out.cell (b:=b) (o:=o+j) (by omega) Ih).trans c1;clear c1;go_wp2_with fail;refine(tc g L t h st a2 cz G[j] 0 _ HS.out (by have:=HLF.out.len; omega) (GB.out _ (List.getElem_mem _)) HLF.out.bound HLF.out.sort _ rfl).mono ?_;rintro e w7 ⟨a7,c7,rfl,Nc,lo7,h7⟩;have hz7:w.heap.size<w7.heap.size:=Nat.lt_of_lt_of_le hlt0 h7.size;obtain⟨⟨e0,e1,e2,e3,e4⟩,g0,g1,g2,g3,g4⟩:=bP h7 hlt0 HB.out;have HS7:=Hx Nc;have LO7:=Hx lo7;have H7:=Hx h7;clear Nc lo7 h7;go_wp2;go_roundw
     case rel =>
      have kp:ac (·=w.heap.size) w7 (((((w7.setCell ⟨w.heap.size,0,none⟩ (.int .i64 g)).setCell ⟨w.heap.size,1,none⟩ (.slice a7 (aZ L G[j] 0).length c7)).setCell ⟨w.heap.size,2,none⟩ (.int .i64 t)).setCell ⟨w.heap.size,3,none⟩ (.int .i64 h)).setCell ⟨w.heap.size,4,none⟩ (.bool st)):=af (af (af (af (af (ac.refl _ _) _ _) _ _) _ _) _ _) _ _;refine⟨j+1,aZ L G[j] 0,a7,c7,by omega,by go_num,by rw[ug L G j hgt]; exact HF.out,HLF.out.without _,jD HS7.out LO7.out kp (λm hm=>by omega),.inr (λb o e=>by have:=LO7.out b o e; omega),?_,(HK.out.trans (ac.of_below H7.out)).trans kp⟩;have hb7:=(H7.out.block w.heap.size hlt0).trans HB.out;exact block_setCell (block_setCell (block_setCell (block_setCell (block_setCell hb7 _) _) _) _) _
     case measure=>simp[intOf]; omega
    .have hjG:j=G.length:=by omega
     have HE:=Hs (L=putOut l G) (by rw[<-HF.out,vE L G j (by omega)]);have hBZ:=(HK.out.block (w.heap.size+1) (by omega) (by omega)).trans HBZ.out;obtain⟨⟨e0,e1,e2,e3,e4⟩,g0,g1,g2,g3,g4⟩:=bP (Below.refl wr.heap.size wr) (b:=w.heap.size+1) (by omega) hBZ;clear hBZ hjG HF;go_wp2;refine bodyPost_ret (v:=.tuple #[.agg #[.int .i64 g,.slice a2 L.length cz,.int .i64 t,.int .i64 h,.bool st],.slice ag G.length cg]) (by simp[results,Tryz.results163,go_sem, *]) rfl ?_;exact DZ HKL.out HE.out HS.out HA.out Ie.out HW0.out HK.out (af (af (af (af (af (ac.refl _ _) _ _) _ _) _ _) _ _) _ _) HR.out
