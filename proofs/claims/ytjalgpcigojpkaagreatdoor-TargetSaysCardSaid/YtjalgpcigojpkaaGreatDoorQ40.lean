import Derived.Test.YtjalgpcigojpkaaGreatDoorQ39
import Derived.Test.YtjalgpcigojpkaaGreatDoorQ21
set_option maxRecDepth 99999
set_option maxHeartbeats 99999999
namespace Go.Proofs.YtjalgpcigojpkaaGreatDoor
section
open Go.RowKit Go.Sort
theorem gi{w:World}{B:Nat}{E:TypeId}{z n c k:Nat}{a:Option Addr}{xs:List Value}(h:w.ownsRow B E z (.slice a n c) k xs){b:Nat}(q:(Value.slice a n c).ownBlock=some b):a=some ⟨b,0,none⟩:=by
 obtain⟨-,h2 | ⟨g',c',cur,e1,-⟩⟩:=h
 .rw[h2.1]at q; cases q
 .rw[e1]at q
  have:g'=b:=by simpa[Value.ownBlock] using q
  subst this;simp only[Value.slice.injEq]at e1;exact e1.1
section
variable {Y:Nat->Prop} {w w6 w7:World} {M g c6:Nat} {m:Dm} {t:Tg}
theorem bO.pushFly(h:bO Y w M m t)(x:Ms)(kw:ac (λb=>(Value.slice m.fa t.fly.length m.fc).ownBlock=some b) w w6)
  (own:w6.ownsRow 0 124 6 (.slice (some ⟨g,0,none⟩) (t.fly.length+1) c6) (t.fly.length+1) (cq t.fly ++ x.row)) (Iw:(Value.slice m.fa t.fly.length m.fc).ownBlock=some g\/w.heap.size<=g)
  (e7:w7=w6.setCell ⟨M,14,none⟩ (.slice (some ⟨g,0,none⟩) (t.fly.length+1) c6)):bO (bL Y w w7) w7 M { m with fa:=some ⟨g,0,none⟩,fc:=c6 } { t with fly:=t.fly ++ [x] }/\ac Y w w7:=by
 have lt:=h.own_lt;have ML:=lt M (.inl rfl);have kS:ac (λb=>b=M\/m.fa=some ⟨b,0,none⟩) w w6:=kw.mono λb q=>.inr (gi h.fly q);have k7:ac (·=M) w6 w7:=e7▸ac.setCell (S:=(·=M)) (p:=⟨M,14,none⟩) (ac.refl _ _) rfl _;have ka:=kS.trans (k7.mono λb e=>.inl e);have hM6:w6.heap[M]?=w.heap[M]?:=kw.block M (λq=>(h.Mf (gi h.fly q)).1 rfl) ML;have gM:g≠M:=cR (aM own rfl).choose_spec (hM6.trans h.blk) (by decide)
 have gl:=(Gl (aM own rfl).choose_spec)
 have ow:∀b,(b=M\/m.fa=some ⟨b,0,none⟩)->m.own M b:=λb e=>e.elim .inl λe=>.inr (.inr (.inr (.inl ⟨0,e⟩)))
 have L1:(t.fly ++ [x]).length=t.fly.length+1:=by simp
 refine⟨h.lists ka.size (λb hb nb=>ka.block b (λq=>nb (ow b q)) hb) (ka.block _ (λq=>q.elim (λq=>h.MG q.symm) λq=>(h.Mf q).2 rfl) (lt _ (.inr (.inl rfl)))) ?_ ⟨rfl,rfl,rfl,rfl,rfl,rfl⟩ (λb q=>?_) ?_ ?_ ?_ h.eq h.cnt,ka.mono λb e=>h.own b (ow b e)⟩
 .unfold eT;dsimp only;rw[L1,e7];exact block_setCell (o:=14) (hM6.trans h.blk) _
 .rcases q with q | q | q | ⟨o,q⟩ | q
  .exact .inl (.inl q)
  .exact .inl (.inr (.inl q))
  .exact .inl (.inr (.inr (.inl q)))
  .cases q
   rcases Iw with q | q
   .exact .inl (.inr (.inr (.inr (.inl ⟨0,gi h.fly q⟩))))
   .exact .inr ⟨q,Nat.lt_of_lt_of_le gl k7.size⟩
  .exact .inl (.inr (.inr (.inr (.inr q))))
 .exact bZ h.wait λb o e=>ka.block b (λq=>q.elim (h.Mw e).1 λq=>cR (aM h.wait e).choose_spec (aM h.fly q).choose_spec (by decide) rfl) (lt b (.inr (.inr (.inl ⟨o,e⟩))))
 .dsimp only;rw[L1,show cq (t.fly ++ [x])=cq t.fly ++ x.row by simp[cq]]
  exact bZ own λb o e=>by
   cases e
   exact k7.block _ gM gl
 .exact bZ h.done λb o e=>ka.block b (λq=>q.elim (h.Md e).1 λq=>cR (aM h.done e).choose_spec (aM h.fly q).choose_spec (by decide) rfl) (lt b (.inr (.inr (.inr (.inr ⟨o,e⟩)))))
theorem bO.pushWait(h:bO Y w M m t)(x:Wt)(hc:(m.dl.length:Int)+t.wait.length+1<=t.tag)(kw:ac (λb=>(Value.slice m.wa t.wait.length m.wc).ownBlock=some b) w w6)
  (own:w6.ownsRow 0 126 4 (.slice (some ⟨g,0,none⟩) (t.wait.length+1) c6) (t.wait.length+1) (sW t.wait ++ x.row)) (Iw:(Value.slice m.wa t.wait.length m.wc).ownBlock=some g\/w.heap.size<=g)
  (e7:w7=w6.setCell ⟨M,13,none⟩ (.slice (some ⟨g,0,none⟩) (t.wait.length+1) c6)):bO (bL Y w w7) w7 M { m with wa:=some ⟨g,0,none⟩,wc:=c6 } { t with wait:=t.wait ++ [x] }/\ac Y w w7:=by
 have lt:=h.own_lt;have ML:=lt M (.inl rfl);have kS:ac (λb=>b=M\/m.wa=some ⟨b,0,none⟩) w w6:=kw.mono λb q=>.inr (gi h.wait q);have k7:ac (·=M) w6 w7:=e7▸ac.setCell (S:=(·=M)) (p:=⟨M,13,none⟩) (ac.refl _ _) rfl _;have ka:=kS.trans (k7.mono λb e=>.inl e);have hM6:w6.heap[M]?=w.heap[M]?:=kw.block M (λq=>(h.Mw (gi h.wait q)).1 rfl) ML;have gM:g≠M:=cR (aM own rfl).choose_spec (hM6.trans h.blk) (by decide)
 have gl:=(Gl (aM own rfl).choose_spec)
 have ow:∀b,(b=M\/m.wa=some ⟨b,0,none⟩)->m.own M b:=λb e=>e.elim .inl λe=>.inr (.inr (.inl ⟨0,e⟩))
 have L1:(t.wait ++ [x]).length=t.wait.length+1:=by simp
 refine⟨h.lists ka.size (λb hb nb=>ka.block b (λq=>nb (ow b q)) hb) (ka.block _ (λq=>q.elim (λq=>h.MG q.symm) λq=>(h.Mw q).2 rfl) (lt _ (.inr (.inl rfl)))) ?_ ⟨rfl,rfl,rfl,rfl,rfl,rfl⟩ (λb q=>?_) ?_ ?_ ?_ h.eq ?_,ka.mono λb e=>h.own b (ow b e)⟩
 .unfold eT;dsimp only;rw[L1,e7];exact block_setCell (o:=13) (hM6.trans h.blk) _
 .rcases q with q | q | ⟨o,q⟩ | q
  .exact .inl (.inl q)
  .exact .inl (.inr (.inl q))
  .cases q
   rcases Iw with q | q
   .exact .inl (.inr (.inr (.inl ⟨0,gi h.wait q⟩)))
   .exact .inr ⟨q,Nat.lt_of_lt_of_le gl k7.size⟩
  .exact .inl (.inr (.inr (.inr q)))
 .dsimp only;rw[L1,show sW (t.wait ++ [x])=sW t.wait ++ x.row by simp[sW]]
  exact bZ own λb o e=>by
   cases e
   exact k7.block _ gM gl
 .exact bZ h.fly λb o e=>ka.block b (λq=>q.elim (h.Mf e).1 λq=>cR (aM h.fly e).choose_spec (aM h.wait q).choose_spec (by decide) rfl) (lt b (.inr (.inr (.inr (.inl ⟨o,e⟩)))))
 .exact bZ h.done λb o e=>ka.block b (λq=>q.elim (h.Md e).1 λq=>cR (aM h.done e).choose_spec (aM h.wait q).choose_spec (by decide) rfl) (lt b (.inr (.inr (.inr (.inr ⟨o,e⟩)))))
 .dsimp only;rw[L1];omega
end
end
section
open Go.RowKit
def zU(X:Nat->Prop)(T:TypeId)(q:Nat)(cs:Array Value)(l:List Int)(M k:Nat)(w:World)(e:Ending)(w':World):Prop :=
 ∃s:Sl,e=.returned (.int .i64 (takeN l))/\ni X w' s l.tail/\w'.heap[M]?=some (.cells (cs.setIfInBounds (q+k) s.v) T (0,0))/\ac (·=M) w w'
theorem As{X:Nat->Prop}{w w':World}{M b o c:Nat}{x:Int}{t:List Int}(h:ni X w ⟨some ⟨b,o,none⟩,x :: t,c⟩ (x :: t))(hX:¬ X M)(kp:ac (·=M) w w'):ni X w' ⟨some ⟨b,o+1,none⟩,t,c - 1⟩ t:=by
 refine⟨λi hi=>?_,by have:=h.len; dsimp only[List.length_cons]at this ⊢; omega,by have:=h.cap; dsimp only[List.length_cons]at this ⊢; omega,rfl⟩;obtain⟨b',o',e,hx,hb,hc⟩:=h.ints (i+1) (by dsimp only[List.length_cons]at hi ⊢; omega)
 obtain⟨rfl,rfl⟩:b=b'/\o=o':=by simpa using e
 refine⟨b,o+1,rfl,hx,Nat.lt_of_lt_of_le hb kp.size,(kp.cell (λe=>hX (e▸hx)) hb).trans ?_⟩;rw[show o+1+i=o+(i+1) by omega,hc];rfl
theorem wF(X:Nat->Prop)(l:List Int)(a:Option Addr)(c M q k:Nat)(T:TypeId)(cs:Array Value)(w:World)(h:ni X w ⟨a,l,c⟩ l)(hX:¬ X M)(hM:w.heap[M]?=some (.cells cs T (0,0)))(hk:k<4)(Iu:cs[q+k]?=some (.slice a l.length c)) : Calls Tryz.prog 52 #[.pointer (some ⟨M,q,none⟩),.int .i64 ((k:Int)+1)] w (zU X T q cs l M k w):=by
 obtain⟨d0,f0⟩:=cells_at hM Iu
 have lB:M<w.heap.size:=(Gl hM)
 have q3:IntKind.i64.wrap ((k:Int)+1 - 1)=(k:Int):=by rw[IntWalk.i64_in _ (by omega)]; omega
 have q4:(k:Int)+1 - 1=(k:Int):=by omega
 have HM:=Hx hM;have HS:=Hx h;have HX:=Hx hX
 cases l with
 | nil =>
  have HC:=Hx Iu;dsimp only[List.length_nil]at *;clear hM h hX Iu;go_enter Tryz.func52,Tryz.ntmps52
  go_wp2;go_ret;exact⟨⟨a,[],c⟩,rfl,HS.out,by dsimp only[Sl.v,List.length_nil]; rw[set_self HC.out]; exact HM.out,ac.refl _ _⟩
 | cons x t =>
  obtain⟨bb,oo,rfl,hx,Ix,hc0⟩:=h.ints 0 (by simp);have Ik:bb≠M:=λe=>hX (e▸hx);have hlen:t.length+1<=5:=h.len;have IF:t.length+1<=c:=h.cap;clear hM h hX Iu hx;dsimp only[List.length_cons]at *;simp only[Nat.add_zero,List.getElem_cons_zero]at hc0
  rcases (by omega:c=1\/¬ c=1) with hc1 | hc1
  .subst hc1;obtain rfl:t=[]:=List.length_eq_zero_iff.1 (by omega);go_enter Tryz.func52,Tryz.ntmps52
   go_wp2;go_region;go_wp2;go_ret;refine⟨⟨some ⟨bb,oo,none⟩,[],0⟩,rfl,⟨λi hi=>absurd hi (by simp),by simp,by simp,rfl⟩,?_,ac.drew (ac.setCell (S:=(·=M)) (ac.refl _ _) rfl _)⟩;exact block_setCell HM.out _
  .go_enter Tryz.func52,Tryz.ntmps52
   go_wp2;go_region;go_wp2;go_ret;have kp:ac (·=M) w (w.setCell ⟨M,q+k,none⟩ (.slice (some ⟨bb,oo+1,none⟩) t.length (c - 1))).drew:=ac.drew (ac.setCell (S:=(·=M)) (ac.refl _ _) rfl _);exact⟨⟨some ⟨bb,oo+1,none⟩,t,c - 1⟩,rfl,As HS.out HX.out kp,block_setCell HM.out _,kp⟩
end
section
open Go.RowKit Go.Sort
theorem boxes{p:Sl->List Int->Prop}{b:Bx}{c:Bl}:(∀j,p (b.get j) (c.get j)) ↔ p b.s1 c.b1/\p b.s2 c.b2/\p b.s3 c.b3/\p b.s4 c.b4:=by
 constructor
 .intro h;exact⟨by simpa[Bx.get,Bl.get] using h 1,by simpa[Bx.get,Bl.get] using h 2,by simpa[Bx.get,Bl.get] using h 3,by simpa[Bx.get,Bl.get] using h 4⟩
 .rintro⟨h1,h2,h3,h4⟩ j;unfold Bx.get Bl.get
  split
  .exact h1
  split
  .exact h2
  split
  .exact h3
  .exact h4
section
variable {Y:Nat->Prop} {w w':World} {M:Nat} {m:Dm} {t:Tg}
theorem uK(k:Nat)(hk:k<4):(eT m t)[7+k]?=some (m.b.get ((k:Int)+1)).v:=by rcases (by omega:k=0\/k=1\/k=2\/k=3) with rfl | rfl | rfl | rfl<;>rfl
theorem zy(k:Nat)(hk:k<4)(s:Sl)(l:List Int):(eT m t).setIfInBounds (7+k) s.v=eT { m with b:=m.b.set ((k:Int)+1) s } { t with b:=t.b.set ((k:Int)+1) l }:=by rcases (by omega:k=0\/k=1\/k=2\/k=3) with rfl | rfl | rfl | rfl<;>rfl
theorem bO.setBox(h:bO Y w M m t)(k:Nat)(hk:k<4){s:Sl}{l:List Int}(kp:ac (·=M) w w')(hb:w'.heap[M]?=some (.cells ((eT m t).setIfInBounds (7+k) s.v) 78 (0,0)))(hs:ni (λb=>bL Y w w' b/\¬ m.own M b) w' s l):bO (bL Y w w') w' M { m with b:=m.b.set ((k:Int)+1) s } { t with b:=t.b.set ((k:Int)+1) l }:=by
 have mv:∀ {s:Sl} {l:List Int},ni (λb=>Y b/\¬ m.own M b) w s l->ni (λb=>bL Y w w' b/\¬ m.own M b) w' s l:=λx=>x.to kp.size λb e hb=>⟨kp.block b (λq=>e.2 (.inl q)) hb,.inl e.1,e.2⟩
 obtain⟨x1,x2,x3,x4⟩:=(boxes (p:=ni (λb=>Y b/\¬ m.own M b) w)).1 h.box;refine h.turn kp (by rw[<-zy k hk s l]; exact hb) (λb e=>.inl e) rfl rfl (λ_ e=>e) h.len (h.str.to kp.size λb e hb=>⟨kp.block b (λq=>e.2 (.inl q)) hb,.inl e.1,e.2⟩) ?_ (.inl ⟨rfl,rfl,rfl⟩) ⟨rfl,rfl,rfl⟩ ⟨rfl,rfl,rfl,rfl⟩;refine(boxes (p:=ni (λb=>bL Y w w' b/\¬ m.own M b) w')).2 ?_
 rcases (by omega:k=0\/k=1\/k=2\/k=3) with rfl | rfl | rfl | rfl
 .exact⟨hs,mv x2,mv x3,mv x4⟩
 .exact⟨mv x1,hs,mv x3,mv x4⟩
 .exact⟨mv x1,mv x2,hs,mv x4⟩
 .exact⟨mv x1,mv x2,mv x3,hs⟩
theorem DD{X:Nat->Prop}{s:Sl}{l:List Int}(h:ni X w s l):ni X w ⟨s.a,s.l,s.c⟩ s.l:=⟨h.ints,h.len,h.cap,rfl⟩
theorem kT(who:Int)(hw:1<=who/\who<=4)(h:bO Y w M m t) : Calls Tryz.prog 52 #[.pointer (some ⟨M,7,none⟩),.int .i64 who] w λe w'=>e=.returned (.int .i64 (takeN (t.b.get who)))/\(∃m',bO (bL Y w w') w' M m' { t with b:=t.b.set who (t.b.get who).tail }/\m'.G=m.G)/\ac (·=M) w w':=by
 obtain⟨k,rfl⟩:∃k:Nat,who=(k:Int)+1:=⟨(who - 1).toNat,by omega⟩
 have hk:k<4:=by omega
 have hx:=h.box ((k:Int)+1);have he:=hx.eq;refine(wF (λb=>Y b/\¬ m.own M b) _ _ _ M 7 k _ _ w (DD hx) (λe=>e.2 (.inl rfl)) h.blk hk (uK k hk)).mono ?_;rintro e w' ⟨s,rfl,hs,hb,kp⟩;rw[he]at hs ⊢;exact⟨rfl,⟨_,h.setBox k hk kp hb (hs.to (Nat.le_refl _) λb e _=>⟨rfl,.inl e.1,e.2⟩),rfl⟩,kp⟩
theorem zx(x:Int × Int)(hw:1<=x.1/\x.1<=4)(h:bO Y w M m t) : Calls Tryz.prog 55 #[.pointer (some ⟨M,7,none⟩),.agg #[.int .i64 x.1,.int .i64 x.2]] w λe w'=>e=.returned (.tuple #[])/\(∃m',bO (bL Y w w') w' M m' { t with b:=t.b.add x }/\m'.G=m.G)/\ac (·=M) w w':=by
 obtain⟨who,what⟩:=x;dsimp only at hw⊢
 obtain⟨k,rfl⟩:∃k:Nat,who=(k:Int)+1:=⟨(who - 1).toNat,by omega⟩
 have hk:k<4:=by omega
 have hx:=h.box ((k:Int)+1);have he:=hx.eq
 have Ik:∀y,(m.b.get ((k:Int)+1)).a=some y->(m.b.get ((k:Int)+1)).l≠[]->y.block≠M:=λy e q=>by
  obtain⟨b,o,e2,hb,-⟩:=hx.ints 0 (List.length_pos_iff.2 q);rw[e]at e2;cases e2
  exact λe=>hb.2 (.inl e)
 refine(zE _ _ _ M 7 k _ _ what w hx.ok h.blk hk (uK k hk) (λq y e=>Ik y e q)).mono ?_;rintro e w' ⟨s,rfl,J0,hl,-,hb,kp,MJ⟩;refine⟨rfl,⟨{ m with b:=m.b.set ((k:Int)+1) s },?_,rfl⟩,kp⟩;have key:=h.setBox k hk (s:=s) (l:=ia (t.b.get ((k:Int)+1)) what) kp hb;refine key ?_;rw[<-he]
 rcases MJ with rfl | hi
 .refine⟨λi hi=>?_,J0.len,J0.cap,hl⟩;obtain⟨b,o,e,Ih,lB,hc⟩:=hx.ints i hi;exact⟨b,o,e,⟨.inl Ih.1,Ih.2⟩,Nat.lt_of_lt_of_le lB kp.size,(kp.cell (λq=>Ih.2 (.inl q)) lB).trans hc⟩
 .refine⟨λi h2=>?_,J0.len,J0.cap,hl⟩;obtain⟨b,o,e,h3,h4,hc⟩:=hi i h2;exact⟨b,o,e,⟨.inr ⟨h3,h4⟩,λq=>by have:=h.own_lt b q; omega⟩,h4,hc⟩
end
abbrev zQ(a:gB):Value:=.tuple #[.string a.data,.int .i64 a.tag,.int .i64 a.what,.int .i64 a.err]
theorem ot{b:Bool}{x m r:Int}(h:0<=r):0<=stage b x m r:=by
 unfold stage
 split
 .decide
 .split
  .decide
  .exact h
theorem uJ(c:bG):0<=aB c:=by
 unfold aB
 split
 .decide
 split
 .decide
 refine ot (ot (ot ?_));unfold Gk
 split
 .decide
 unfold GM
 split
 .decide
 unfold Hj
 split<;>decide
theorem AW(s:St)(c:bG):0<=(bH s c).2.2:=by
 unfold bH
 split
 .exact Int.le_refl _
 split
 .show 0<=(bB s c).2
  unfold bB; (repeat' split)<;>(dsimp only; omega)
 split
 .unfold aL; (repeat' split)<;>(dsimp only; omega)
 split
 .exact Int.le_refl _
 split
 .unfold aI; dsimp only; (repeat' split)<;>(dsimp only; omega)
 .exact Int.le_refl _
theorem AP(s:St)(c:bG):0<=(dy s c).2.2:=by
 have:=AW s c;unfold dy
 split
 .dsimp only; omega
 split
 .dsimp only; omega
 split
 .exact this
 split<;>(dsimp only; omega)
theorem zS(b:Bl)(l:List (Int × Int))(j:Nat)(h:j<l.length):b.adds (l.take (j+1))=(b.adds (l.take j)).add l[j]:=by unfold Bl.adds;rw[List.take_succ_eq_append_getElem h,List.foldl_append];rfl
section
variable {n:Nat} {S:aw->Prop} {B:Int} {t:Tg}
theorem yF(h:TI n S B t)(hB:B+2<1000000000000000){c:bG}(hc:jA c){r:St × List (Int × Int) × Int}(hr:dy t.k.s c=r) : (r.2.2≠0->t.order n c=(t,r.2.2))/\(r.2.2=0->cG ce t.k.s r.1=true->(t.isReady=false->t.order n c=(t,7))/\(t.isReady=true->t.k.ep=1000000->t.order n c=(t,6)) /\ (t.isReady=true->t.k.ep≠1000000->∃k:Kp,t.order n c=({ t.nexted r.1 with k:=k,b:=t.b.adds r.2.1 },0)/\k.s=r.1/\k.ep=t.k.ep+1)) /\ (r.2.2=0->cG ce t.k.s r.1=false->∃k:Kp,t.order n c=({ t with k:=k,b:=t.b.adds r.2.1 },0)/\k.s=r.1/\k.ep=t.k.ep):=by
 subst hr;have rd:=h.isReady;unfold Tg.order;refine⟨λe=>if_pos e,λe l=>?_,λe l=>?_⟩
 .rw[if_neg (by simp[e])];dsimp only;rw[if_pos l];obtain⟨n1,n2,n3⟩:=fW h hB (lx h.good hc e);refine⟨λe1=>?_,λe1 e2=>?_,λe1 e2=>?_⟩
  .rw[n2 (by rw[e1]at rd; simpa using rd.symm)];rfl
  .rw[n3 (by rw[e1]at rd; simpa using rd.symm) e2];rfl
  .obtain⟨f1,d,f2,-⟩:=n1 (by rw[e1]at rd; simpa using rd.symm) e2;rw[if_neg (by simp[f1]),f2];refine⟨⟨d,t.k.num+2,t.k.ep+1,_⟩,?_,rfl,rfl⟩;unfold Tg.nexted;rw[h.qi.fence]
 .rw[if_neg (by simp[e])];dsimp only
  have hl:¬ cG ce t.k.s (dy t.k.s c).1=true:=by simp[l]
  rw[if_neg hl];obtain⟨f1,d,f2,-⟩:=h.kept hB (lx h.good hc e);rw[if_neg (by simp[f1]),f2];exact⟨_,rfl,rfl,rfl⟩
theorem zN(h:TI n S B t){c:bG}(hf:aB c=0)(hb:t.b.get c.who=[])(ho:7<=c.op){P:Bool}(hP:ce t.k.s c.who (decide (c.op≠7))=P){g:Gp}(hg:t.g.read t.k.ep c.at'.toNat=g){d:ByteArray}(hd:(t.g.readC t.k.ep c.at'.toNat).d=d) : (P=false->t.ask n c=(t,gB.bad 4))/\(P=true->t.isReady=false->t.ask n c=(t,gB.bad 7))/\(P=true->t.isReady=true->(c.op=7->t.ask n c=({ t with g:=g },⟨d,0,0,0⟩))/\(c.op=8->t.ask n c=t.doWrite c) /\ (c.op=9->(t.busy c.at'=true->t.ask n c=({ t with g:=g },gB.bad 7))/\(t.busy c.at'=false->d≠c.want->t.ask n c=({ t with g:=g },gB.bad 9))/\(t.busy c.at'=false->d=c.want->t.ask n c=({ t with g:=g }:Tg).doWrite c))):=by
 subst hP;have rd:=h.ready
 have E:t.ask n c=if ce t.k.s c.who (decide (c.op≠7))=false then(t,gB.bad 4) else if c.op=7 then((t.read c.at'.toNat).1,⟨(t.read c.at'.toNat).2.1,0,0,(t.read c.at'.toNat).2.2⟩) else if t.isReady=false then(t.ready,gB.bad 7) else if c.op=9 then t.ready.doComp c else t.ready.doWrite c:=by unfold Tg.ask;rw[if_neg (by simp[hf]),if_neg (by rw[hb]; simp[takeN]),if_neg (by omega)]
 have R0:t.isReady=false->t.read c.at'.toNat=(t,⟨#[]⟩,7):=λe=>by unfold Tg.read; rw[if_pos e,rd]
 have R1:t.isReady=true->t.read c.at'.toNat=({ t with g:=g },d,0):=λe=>by unfold Tg.read; rw[if_neg (by simp[e]),rd,hg,hd]
 refine⟨λe=>by rw[E,if_pos e],λe e1=>?_,λe e1=>⟨λe2=>?_,λe2=>?_,λe2=>?_⟩⟩
 .by_cases e7:c.op=7
  .rw[E,if_neg (by rw[e]; decide),if_pos e7,R0 e1]; rfl
  .rw[E,if_neg (by rw[e]; decide),if_neg e7,if_pos e1,rd]
 .rw[E,if_neg (by rw[e]; decide),if_pos e2,R1 e1]
 .rw[E,if_neg (by rw[e]; decide),if_neg (by omega),if_neg (by simp[e1]),if_neg (by omega),rd]
 .have D:t.ask n c=t.doComp c:=by rw[E,if_neg (by rw[e]; decide),if_neg (by omega),if_neg (by simp[e1]),if_pos e2,rd]
  rw[D];unfold Tg.doComp;rw[R1 e1];dsimp only;have bz:({ t with g:=g }:Tg).busy c.at'=t.busy c.at':=rfl;unfold Tg.refuse;rw[bz];refine⟨λq=>?_,λq q2=>?_,λq q2=>?_⟩
  .rw[if_pos (.inr (.inr q)),if_neg (by decide),if_pos q]
  .rw[if_pos (.inr (.inl q2)),if_neg (by decide),if_neg (by simp[q])]
  .rw[if_neg];rintro (q3 | q3 | q3)
   .exact q3 rfl
   .exact q3 q2
   .rw[q]at q3; cases q3
theorem xX(u:Tg)(c:bG):(u.wait.length=6\/40<u.fly.length+3->u.doWrite c=(u,gB.bad 6))/\(¬ (u.wait.length=6\/40<u.fly.length+3) -> u.doWrite c=({ u with num:=u.num+1,tag:=u.tag+1,fly:=u.fly ++ [u.msg c 0,u.msg c 1,u.msg c 2],wait:=u.wait ++ [⟨u.tag+1,c.who,u.num+1,[]⟩] },⟨⟨#[]⟩,u.tag+1,0,0⟩)):=by
 unfold Tg.doWrite Tg.write;exact⟨λe=>by rw[if_pos e]; rfl,λe=>by rw[if_neg e]⟩
end
section
variable {Y:Nat->Prop} {w w':World} {M:Nat} {m:Dm} {t:Tg}
theorem bO.pairs_new(h:bO Y w M m t){r:St}{a:Option Addr}(hs:bj w' r a)(al:(a=m.sa/\r.regs.length<=t.k.s.regs.length)\/∀b o,a=some ⟨b,o,none⟩->w.heap.size<=b) : dB (λb=>bL Y w w' b/\¬ m.own M b) w' a r.regs:=by
 intro i hi;obtain⟨c,o,e,hb,c1,c2⟩:=hs.rep i hi;refine⟨c,o,e,?_,hb,c1,c2⟩
 rcases al with⟨e2,hl⟩ | al
 .obtain⟨c',o',e',hx,-⟩:=h.str i (by omega);rw[<-e2,e]at e';cases e'
  exact⟨.inl hx.1,hx.2⟩
 .have:=al c o e;exact⟨.inr ⟨this,hb⟩,λq=>by have:=h.own_lt c q; omega⟩
theorem bO.setS(h:bO Y w M m t)(s:St)(a:Option Addr)(c:Nat)(hl:s.regs.length<=maxLen)(hs:dB (λb=>Y b/\¬ m.own M b) w a s.regs)
  (e:w'=((((w.setCell ⟨M,0,none⟩ (.int .i64 s.gen)).setCell ⟨M,1,none⟩ (.slice a s.regs.length c)).setCell ⟨M,2,none⟩ (.int .i64 s.typ)).setCell ⟨M,3,none⟩ (.int .i64 s.holder)).setCell ⟨M,4,none⟩ (.bool s.stays)) :
  bO Y w' M { m with sa:=a,sc:=c } { t with k:=⟨t.k.d,t.k.num,t.k.ep,s⟩ }/\ac (·=M) w w':=by
 subst e;have K5:=iT (M:=M) (ac.refl (·=M) w) rfl (.int .i64 s.gen) (.slice a s.regs.length c) (.int .i64 s.typ) (.int .i64 s.holder) (.bool s.stays);exact⟨h.turn K5 (xN h.blk s a c) (λ_ e=>e) rfl rfl (λ_ e=>e) hl (hs.to K5.size λb e hb=>⟨K5.block b (λq=>e.2 (.inl q)) hb,e⟩) (λk=>(h.box k).to K5.size λb e hb=>⟨K5.block b (λq=>e.2 (.inl q)) hb,e⟩) (.inl ⟨rfl,rfl,rfl⟩) ⟨rfl,rfl,rfl⟩ ⟨rfl,rfl,rfl,rfl⟩,K5⟩
end
structure sY (w2:World) (M:Nat) (m:Dm) (t:Tg) (tag tt:Int) (k:Nat) (v:Value) (da:Option Addr) (dc:Nat) (dl:List Int) (wr:World):Prop where
 row:wr.heap[M]?=some (.cells (eT { m with da:=da,dc:=dc,dl:=dl } t) 78 (0,0))
 left:wr.ownsRow w2.heap.size 126 4 v ((t.wait.take k).filterMap (cT tag tt)).length (sW ((t.wait.take k).filterMap (cT tag tt)))
 done:wr.ownsRow 0 3 1 (.slice da dl.length dc) dl.length (dl.map (Value.int .i64))
 at':∀b o,da=some ⟨b,o,none⟩->(∃o',m.da=some ⟨b,o',none⟩)\/(w2.heap.size<=b/\b<wr.heap.size)
 mem:∀x,x∈dl ↔ x∈m.dl\/(x=tag/\(t.wait.take k).any (fX tag tt)=true)
 ks:ac (λb=>b=M\/∃o,m.da=some ⟨b,o,none⟩) w2 wr
 len:dl.length+((t.wait.take k).filterMap (cT tag tt)).length<=m.dl.length+k
def Hr (w2:World)(M:Nat)(m:Dm)(t:Tg)(tag tt:Int)(v i:Value)(wr:World):Prop:=∃k da dc dl,k<=t.wait.length/\i=.int .i64 (k:Nat)/\sY w2 M m t tag tt k v da dc dl wr
theorem q9{x:Wt}(hl:x.hv.length<=1)(hv:∀y∈x.hv,0<=y/\y<3){k:Nat}(hk:k<3) : x.row.toArray.setIfInBounds (1+k) (.bool true)=(x.put k).row.toArray /\ (2<=(x.put k).hv.length ↔ 2<=([decide ((0:Int)∈(x.put k).hv),decide ((1:Int)∈(x.put k).hv),decide ((2:Int)∈(x.put k).hv)].filter id).length):=by
 obtain⟨tag,who,num,hv'⟩:=x;dsimp only at hl hv
 match hv',hl,hv with
 | [],_,_=>rcases (by omega:k=0\/k=1\/k=2) with rfl | rfl | rfl<;>exact⟨rfl,Iff.rfl⟩
 | [y],_,hv =>
  have:=hv y (by simp)
  rcases (by omega:y=0\/y=1\/y=2) with rfl | rfl | rfl<;>rcases (by omega:k=0\/k=1\/k=2) with rfl | rfl | rfl<;>exact⟨rfl,Iff.rfl⟩
theorem Tryz.infoDW:(Tryz.prog.info? 126).map (λi=>(i.zero,i.size,i.bytes))=some (some (.agg #[.int .i64 0,.bool false,.bool false,.bool false]),4,16):=by kernel_rfl
theorem rA{w:World}{b:Nat}{x:Wt}{T:TypeId}(h:w.heap[b]?=some (.cells x.row.toArray T (0,0))) : (w.cell? ⟨b,0,none⟩=some (.int .i64 x.tag)/\w.cell? ⟨b,1,none⟩=some (.bool (decide ((0:Int)∈x.hv)))/\w.cell? ⟨b,2,none⟩=some (.bool (decide ((1:Int)∈x.hv)))/\w.cell? ⟨b,3,none⟩=some (.bool (decide ((2:Int)∈x.hv))))/\∀o,w.frozen? ⟨b,o,none⟩=false:=by
 simp[World.cell?,World.frozen?,h,Wt.row]
theorem Dn{w:World}{b k:Nat}{x:Wt}{T:TypeId}(h:w.heap[b]?=some (.cells x.row.toArray T (0,0)))(hk:k<3):∃f,w.cell? ⟨b,1+k,none⟩=some (.bool f):=by
 obtain⟨⟨-,c1,c2,c3⟩,-⟩:=rA h
 rcases (by omega:k=0\/k=1\/k=2) with rfl | rfl | rfl
 .exact⟨_,c1⟩
 .exact⟨_,c2⟩
 .exact⟨_,c3⟩
theorem row_one(x:Wt):∀u∈x.row,u.oneCell'=true:=by
 intro u hu;simp only[Wt.row,List.mem_cons,List.not_mem_nil,or_false]at hu
 rcases hu with rfl | rfl | rfl | rfl<;>rfl
theorem zX(l:List Wt)(x:Wt):sW (l ++ [x])=sW l ++ x.row:=by simp[sW]
theorem own_below{w w':World}{B:Nat}{E:TypeId}{z k:Nat}{v:Value}{xs:List Value}(h:w.ownsRow B E z v k xs)(b:Below w.heap.size w w'):w'.ownsRow B E z v k xs:=aV h λc e=>b.block c (h.lt c e).2
theorem uy{w w1 w2:World}{v:Value}(b:Below w.heap.size w w1)(g:w1.grownBy w2 v.ownBlock):ac (λb=>v.ownBlock=some b) w w2 :=
 ⟨g.os.trans b.os,g.tape.trans b.tape,g.output.trans b.output,Nat.le_trans b.size g.size,λc hc hl=>(g.block c (Nat.lt_of_lt_of_le hl b.size) (λq=>hc q.symm)).trans (b.block c hl)⟩
theorem uR{α:Type}{p:α->Bool}{l:List α}{k:Nat}(h:k<l.length):(l.take (k+1)).any p=((l.take k).any p || p l[k]):=by rw[List.take_succ_eq_append_getElem h,List.any_append]; simp
theorem xI{α β:Type}{f:α->Option β}{l:List α}{k:Nat}(h:k<l.length):(l.take (k+1)).filterMap f=(l.take k).filterMap f ++ (match f l[k] with | none=>[] | some y=>[y]):=by
 rw[List.take_succ_eq_append_getElem h,List.filterMap_append,List.filterMap_cons]
 cases f l[k]<;>rfl
section
variable {Y:Nat->Prop} {w wr:World} {M:Nat} {m:Dm} {t:Tg} {tag tt:Int} {k:Nat} {v:Value} {da:Option Addr} {dc:Nat} {dl:List Int}
theorem sY.start(h:bO Y w M m t):sY w M m t tag tt 0 (.slice none 0 0) m.da m.dc m.dl w :=
 ⟨h.blk,⟨rfl,.inl ⟨rfl,rfl⟩⟩,h.done,λ_ o e=>.inl ⟨o,e⟩,λx=>by simp,ac.refl _ _,by simp⟩
theorem sY.ne(d:sY w M m t tag tt k v da dc dl wr){b o:Nat}(e:da=some ⟨b,o,none⟩):b≠M/\b<wr.heap.size/\∀ {c:Nat} {cs:Array Value} {E:TypeId},wr.heap[c]?=some (.cells cs E (0,0))->(E:Nat)≠3->c≠b:=by obtain⟨cur,hc⟩:=aM d.done e;exact⟨cR hc d.row (by decide),(Gl hc),λh ne=>cR h hc ne⟩
theorem sY.wt(h:bO Y w M m t)(d:sY w M m t tag tt k v da dc dl wr)(j:Nat)(hj:j<t.wait.length):∃b,m.wa=some ⟨b,0,none⟩/\b<wr.heap.size/\wr.cell? ⟨b,j*4,none⟩=some (.int .i64 (t.wait[j]).tag) /\ wr.cell? ⟨b,j*4+1,none⟩=some (.bool (decide ((0:Int)∈(t.wait[j]).hv)))/\wr.cell? ⟨b,j*4+2,none⟩=some (.bool (decide ((1:Int)∈(t.wait[j]).hv)))/\wr.cell? ⟨b,j*4+3,none⟩=some (.bool (decide ((2:Int)∈(t.wait[j]).hv))):=by
 obtain⟨b,e,hb,c0,c1,c2,c3⟩:=h.wt_at j hj
 have nb:¬ (b=M\/∃o,m.da=some ⟨b,o,none⟩):=by
  rintro (q | ⟨o,q⟩)
  .exact(h.Mw e).1 q
  .exact cR (aM h.wait e).choose_spec (aM h.done q).choose_spec (by decide) rfl
 have kc:∀o,wr.cell? ⟨b,o,none⟩=w.cell? ⟨b,o,none⟩:=λo=>d.ks.cell nb hb;exact⟨b,e,Nat.lt_of_lt_of_le hb d.ks.size,(kc _).trans c0,(kc _).trans c1,(kc _).trans c2,(kc _).trans c3⟩
theorem sY.snoc(h:bO Y w M m t)(d:sY w M m t tag tt k v da dc dl wr)(hk:k<t.wait.length){y:Wt}(hy:cT tag tt t.wait[k]=some y){w1:World}{v1:Value}(kw:ac (λb=>v.ownBlock=some b) wr w1)
  (own:w1.ownsRow w.heap.size 126 4 v1 (((t.wait.take k).filterMap (cT tag tt)).length+1) (sW ((t.wait.take k).filterMap (cT tag tt)) ++ y.row)):sY w M m t tag tt (k+1) v1 da dc dl w1:=by
 have ML:M<w.heap.size:=h.own_lt M (.inl rfl);have lv:=d.left.lt
 have e1:(t.wait.take (k+1)).filterMap (cT tag tt)=(t.wait.take k).filterMap (cT tag tt) ++ [y]:=by rw[xI hk,hy]
 have ed:fX tag tt t.wait[k]=false:=by
  unfold cT at hy;unfold fX
  split at hy
  .split at hy
   .cases hy
   .rename_i q;simp[q]
  .rename_i q;simp[q]
 refine⟨(kw.block M (λq=>by have:=(lv M q).1; omega) (Nat.lt_of_lt_of_le ML d.ks.size)).trans d.row,?_,bZ d.done λb o e=>kw.block b (λq=>?_) (d.ne e).2.1,λb o e=>(d.at' b o e).imp id λq=>⟨q.1,Nat.lt_of_lt_of_le q.2 kw.size⟩,λx=>?_,d.ks.more (kw.mono λb q=>.inr (lv b q)),?_⟩
 .rw[e1,zX,List.length_append];exact own
 .obtain⟨cur,hc⟩:=rN d.left q;exact(d.ne e).2.2 hc (by decide) rfl
 .rw[uR hk,ed,Bool.or_false];exact d.mem x
 .have:=d.len;rw[e1,List.length_append,List.length_singleton];omega
theorem sY.push(h:bO Y w M m t)(d:sY w M m t tag tt k v da dc dl wr)(hk:k<t.wait.length)(hy:fX tag tt t.wait[k]=true){w6 w7:World}{g c6:Nat}(kw:ac (λb=>(Value.slice da dl.length dc).ownBlock=some b) wr w6)
  (own:w6.ownsRow 0 3 1 (.slice (some ⟨g,0,none⟩) (dl.length+1) c6) (dl.length+1) (dl.map (Value.int .i64) ++ [.int .i64 tag])) (Iw:(Value.slice da dl.length dc).ownBlock=some g\/wr.heap.size<=g)
  (e7:w7=w6.setCell ⟨M,15,none⟩ (.slice (some ⟨g,0,none⟩) (dl.length+1) c6)):sY w M m t tag tt (k+1) v (some ⟨g,0,none⟩) c6 (dl ++ [tag]) w7:=by
 have ML:M<w.heap.size:=h.own_lt M (.inl rfl);have lv:=d.left.lt
 have ob:∀b,(Value.slice da dl.length dc).ownBlock=some b->∃o,da=some ⟨b,o,none⟩:=λb q=>by
  obtain⟨-,h2 | ⟨g',c',cur,e1,-⟩⟩:=d.done
  .rw[h2.1]at q; cases q
  .rw[e1]at q
   have:g'=b:=by simpa[Value.ownBlock] using q
   subst this;simp only[Value.slice.injEq]at e1;exact⟨0,e1.1⟩
 have hM6:w6.heap[M]?=wr.heap[M]?:=kw.block M (λq=>by obtain⟨o,e⟩:=ob M q; exact(d.ne e).1 rfl) (Nat.lt_of_lt_of_le ML d.ks.size);have gM:g≠M:=cR (aM own rfl).choose_spec (hM6.trans d.row) (by decide);have k7:ac (·=M) w6 w7:=e7▸ac.setCell (S:=(·=M)) (p:=⟨M,15,none⟩) (ac.refl _ _) rfl _
 have gl:g<w6.heap.size:=(Gl (aM own rfl).choose_spec)
 have e1:(t.wait.take (k+1)).filterMap (cT tag tt)=(t.wait.take k).filterMap (cT tag tt):=by
  have:cT tag tt t.wait[k]=none:=by unfold fX at hy;simp only[Bool.and_eq_true,decide_eq_true_eq]at hy;unfold cT;rw[if_pos hy.1,if_pos hy.2]
  rw[xI hk,this,List.append_nil]
 have L1:(dl ++ [tag]).length=dl.length+1:=by simp
 refine⟨?_,?_,?_,λb o e=>?_,λx=>?_,?_,?_⟩
 .unfold eT;dsimp only;rw[e7,L1];exact block_setCell (o:=15) (hM6.trans d.row) _
 .rw[e1];refine aV d.left λb q=>?_;have:=lv b q;obtain⟨cur,hc⟩:=rN d.left q;exact(k7.block b (λq=>by omega) (Nat.lt_of_lt_of_le this.2 kw.size)).trans (kw.block b (λq=>by obtain⟨o,e⟩:=ob b q; exact(d.ne e).2.2 hc (by decide) rfl) this.2)
 .rw[L1,List.map_append]
  exact bZ own λb o e=>by
   cases e
   exact k7.block _ gM gl
 .cases e
  rcases Iw with q | q
  .obtain⟨o',q⟩:=ob g q
   exact(d.at' g o' q).imp id λq=>⟨q.1,Nat.lt_of_lt_of_le q.2 (Nat.le_trans kw.size k7.size)⟩
  .exact .inr ⟨Nat.le_trans d.ks.size q,Nat.lt_of_lt_of_le gl k7.size⟩
 .rw[uR hk,hy,Bool.or_true,List.mem_append,List.mem_singleton,d.mem x];constructor
  .rintro ((q | q) | q)
   .exact .inl q
   .exact .inr ⟨q.1,rfl⟩
   .exact .inr ⟨q,rfl⟩
  .rintro (q | q)
   .exact .inl (.inl q)
   .exact .inr q.1
 .refine d.ks.more ((kw.mono λb q=>?_).trans (k7.mono λb q=>.inl (.inl q)));obtain⟨o,e⟩:=ob b q
  rcases d.at' b o e with q | q
  .exact .inl (.inr q)
  .exact .inr q
 .have:=d.len;rw[e1,L1];omega
theorem sY.fin(h:bO Y w M m t)(x:Ms)(ws:t.wait.Pairwise λa b=>a.tag<b.tag){la:Option Addr}{n lc:Nat}(d:sY w M m t x.tag x.tt t.wait.length (.slice la n lc) da dc dl wr){w':World}(e':w'=wr.setCell ⟨M,13,none⟩ (.slice la n lc)):dS Y w M (t.came x) w':=by
 obtain⟨c1,c2⟩:=CW ws x;obtain⟨s1,s2,s3,s4,s5,s6⟩:=rl t x;have D:=d;have lf:=d.left;have ln:=d.len;have dm:=d.mem;rw[List.take_length,<-c1]at lf ln;rw[List.take_length]at dm
 have nl:n=(t.came x).wait.length:=by
  obtain⟨-,h2 | ⟨g,c,cur,e,-⟩⟩:=lf
  .have e:=h2.1;simp only[Value.slice.injEq]at e;exact e.2.1.trans h2.2.symm
  .simp only[Value.slice.injEq]at e;exact e.2.1
 subst nl;have ML:M<w.heap.size:=h.own_lt M (.inl rfl);have kM:ac (·=M) wr w':=e'▸ac.setCell (S:=(·=M)) (p:=⟨M,13,none⟩) (ac.refl _ _) rfl _;have ka:ac (λb=>b=M\/∃o,m.da=some ⟨b,o,none⟩) w w':=d.ks.trans (kM.mono λb e=>.inl e);have ow:∀b,(b=M\/∃o,m.da=some ⟨b,o,none⟩)->m.own M b:=λb e=>e.elim .inl λe=>.inr (.inr (.inr (.inr e)));have own:=lf.lt;refine dS.from' (m':={ m with wa:=la,wc:=lc,da:=da,dc:=dc,dl:=dl }) (h.lists ka.size (λb hb nb=>ka.block b (λq=>nb (ow b q)) hb) (ka.block _ (λq=>q.elim (λq=>h.MG q.symm) λ⟨o,q⟩=>(h.Md q).2 rfl) (h.own_lt _ (.inr (.inl rfl)))) ?_ ⟨rfl,rfl,rfl,s2,s1,s3⟩ (λb q=>?_) ?_ ?_ ?_ (λy=>?_) ?_) h ka ow
 .unfold eT;dsimp only;rw[s1,s4,s5,s6,e'];exact block_setCell (o:=13) d.row _
 .rcases q with q | q | ⟨o,q⟩ | q | ⟨o,q⟩
  .exact .inl (.inl q)
  .exact .inl (.inr (.inl q))
  .obtain⟨q1,q2⟩:=kq lf q;exact .inr ⟨q1,Nat.lt_of_lt_of_le q2 kM.size⟩
  .exact .inl (.inr (.inr (.inr (.inl q))))
  .rcases d.at' b o q with q | q
   .exact .inl (.inr (.inr (.inr (.inr q))))
   .exact .inr ⟨q.1,Nat.lt_of_lt_of_le q.2 kM.size⟩
 .exact bZ (tU lf (Nat.zero_le _)) λb o e=>kM.block b (λq=>by have:=(kq lf e).1; omega) (kq lf e).2
 .rw[s6];exact bZ h.fly λb o e=>ka.block b (λq=>q.elim (h.Mf e).1 λ⟨o',q⟩=>cR (aM h.fly e).choose_spec (aM h.done q).choose_spec (by decide) rfl) (h.own_lt b (.inr (.inr (.inr (.inl ⟨o,e⟩)))))
 .exact bZ d.done λb o e=>kM.block b (d.ne e).1 (d.ne e).2.1
 .rw[c2,<-h.eq y];exact dm y
 .have:=h.cnt;dsimp only;rw[s5];omega
end
def Tg.base(k:Kp)(g:Gp):Tg:=Tg.start k g
def Dj(Y:Nat->Prop)(w:World)(G:Nat)(t:Tg)(e:Ending)(w':World):Prop :=
 (t.isReady=false/\e=.returned (.tuple #[.pointer none,.int .i64 7])/\w'.heap[G]?=some (.cells t.ready.g.arr 97 (0,0))/\ac (·=G) w w') \/
  (t.isReady=true/\t.k.ep=1000000/\e=.returned (.tuple #[.pointer none,.int .i64 6])/\w'.heap[G]?=some (.cells t.ready.g.arr 97 (0,0))/\ac (·=G) w w') \/
  (t.isReady=true/\t.k.ep≠1000000/\∃M,e=.returned (.tuple #[.pointer (some ⟨M,0,none⟩),.int .i64 0])/\w.heap.size<=M/\(∃m,bO (bL Y w w') w' M m (t.nexted t.k.s))/\ac (·=G) w w')
section
variable {Y:Nat->Prop} {w:World}
theorem sN(v0 v1 v2 v3 v4:Value)(ep:Int)(G:Nat):Tryz.prog.built 78 [(0,.agg #[v0,v1,v2,v3,v4]),(1,.int .i64 ep),(2,.pointer (some ⟨G,0,none⟩))] = some #[v0,v1,v2,v3,v4,.int .i64 ep,.pointer (some ⟨G,0,none⟩),.slice none 0 0,.slice none 0 0,.slice none 0 0,.slice none 0 0,.int .i64 0,.int .i64 0,.slice none 0 0,.slice none 0 0,.slice none 0 0]:=by kernel_rfl
def eC:Sl:=⟨none,[],0⟩
def ES(G:Nat)(a:Option Addr)(c:Nat):Dm:=⟨G,a,c,⟨eC,eC,eC,eC⟩,none,0,none,0,none,0,[]⟩
theorem zW(k:Int):Bl.zero.get k=[]:=by
 unfold Bl.get Bl.zero
 repeat' split
 all_goals rfl
theorem mY(k:Kp)(g:Gp)(G:Nat)(a:Option Addr)(cap:Nat)(hg:w.heap[G]?=some (.cells g.arr 97 (0,0)))(ok:g.ok)(hY:Y G)(he:0<=k.ep/\k.ep<=1000000)(hl:k.s.regs.length<=maxLen)(hs:dB (λb=>Y b/\b≠G) w a k.s.regs) :
  Calls Tryz.prog 7 #[dh k.s a cap,.int .i64 k.ep,.pointer (some ⟨G,0,none⟩)] w λe w'=>Dj Y w G (Tg.start k g) e w':=by
 have GL:=(Gl hg)
 obtain⟨w1,pX⟩:=Nn (w.alloc (.cells #[.int .i64 k.s.gen,.slice a k.s.regs.length cap,.int .i64 k.s.typ,.int .i64 k.s.holder,.bool k.s.stays] 34));have B1:=Hs (Below w.heap.size w w1) (pX▸ay w _);have Z1:=Hs (w1.heap.size=w.heap.size+1) (by rw[pX]; simp);have R1:=Hs (w1.heap[w.heap.size]?=some (.cells #[.int .i64 k.s.gen,.slice a k.s.regs.length cap,.int .i64 k.s.typ,.int .i64 k.s.holder,.bool k.s.stays] 34 (0,0))) (pX▸heap_alloc_new w _);obtain⟨w2,IQ⟩:=Nn (w1.alloc (.cells #[.int .i64 k.s.gen,.slice a k.s.regs.length cap,.int .i64 k.s.typ,.int .i64 k.s.holder,.bool k.s.stays,.int .i64 k.ep,.pointer (some ⟨G,0,none⟩),.slice none 0 0,.slice none 0 0,.slice none 0 0,.slice none 0 0,.int .i64 0,.int .i64 0,.slice none 0 0,.slice none 0 0,.slice none 0 0] 78));have B2:=Hs (Below w1.heap.size w1 w2) (IQ▸ay w1 _);have Z2:=Hs (w2.heap.size=w.heap.size+2) (by rw[IQ]; simp[Z1.out]);have B02:=Hx (B1.out.trans (B2.out.mono B1.out.size));have R2:=Hx ((B2.out.block _ (by rw[Z1.out]; omega)).trans R1.out)
 have H2:=Hs (bO (bL Y w w2) w2 w1.heap.size (ES G a cap) (Tg.start k g)) (by
  have no:∀b,Dm.own (ES G a cap) w1.heap.size b->b=w1.heap.size\/b=G:=λb e=>by
   rcases e with e | e | ⟨o,e⟩ | ⟨o,e⟩ | ⟨o,e⟩
   .exact .inl e
   .exact .inr e
   .cases e
   .cases e
   .cases e
  have nr:∀ {E:TypeId} {z:Nat},w2.ownsRow 0 E z (.slice none 0 0) 0 []:=⟨by simp,.inl ⟨rfl,rfl⟩⟩
  refine⟨IQ▸heap_alloc_new w1 _,(B02.out.block _ GL).trans hg,ok,hl,hs.to B02.out.size λb e hb=>⟨B02.out.block b hb,.inl e.1,λq=>?_⟩,λj=>?_,nr,nr,nr,λb e=>?_,λx=>Iff.rfl,Int.le_refl 0⟩
  .rcases no b q with q | q
   .rw[Z1.out]at q; omega
   .exact e.2 q
  .rw[show(Tg.start k g).b.get j=[] from zW j];exact sM (p:=λs=>ni _ w2 s []) (b:=⟨eC,eC,eC,eC⟩) ⟨λi hi=>absurd hi (by simp[eC]),by simp[eC],by simp[eC],rfl⟩ ⟨λi hi=>absurd hi (by simp[eC]),by simp[eC],by simp[eC],rfl⟩ ⟨λi hi=>absurd hi (by simp[eC]),by simp[eC],by simp[eC],rfl⟩ ⟨λi hi=>absurd hi (by simp[eC]),by simp[eC],by simp[eC],rfl⟩ j
  .rcases no b e with e | e
   .exact .inr ⟨by rw[e,Z1.out]; omega,by rw[e,Z1.out,Z2.out]; omega⟩
   .exact .inl (e▸hY))
 have NX:=Hx (mB k.s a cap H2.out he hl (H2.out.str));have bt:=sN (.int .i64 k.s.gen) (.slice a k.s.regs.length cap) (.int .i64 k.s.typ) (.int .i64 k.s.holder) (.bool k.s.stays) k.ep G;have KK:=Hs (∀w',ac (λb=>b=w1.heap.size\/b=G) w2 w'->ac (·=G) w w') (λw' q=>⟨q.os.trans B02.out.os,q.tape.trans B02.out.tape,q.output.trans B02.out.output,Nat.le_trans B02.out.size q.size,λb hb lB=>(q.block b (λe=>e.elim (λe=>by rw[Z1.out]at e; omega) hb) (Nat.lt_of_lt_of_le lB B02.out.size)).trans (B02.out.block b lB)⟩);clear hg ok hY he hl hs;obtain⟨⟨e0,e1,e2,e3,e4⟩,-⟩:=cells5 R1.out;obtain⟨⟨d0,d1,d2,d3,d4⟩,-⟩:=cells5 R2.out;go_enter Tryz.func7,Tryz.ntmps7
 go_upto_region 1 with fail;rw[<-pX];clear pX;go_upto_region 2 with fail;rw[<-IQ];clear IQ bt;go_wp2_with fail;refine NX.out.mono ?_;rintro e w3 (⟨r,rfl,h3,k3⟩ | ⟨r,r2,rfl,h3,k3⟩ | ⟨r,r2,rfl,m',h3,eG,-,k3⟩)
 .have P:=Hx (And.intro r (And.intro h3.grp (KK.out _ (k3.mono λb e=>.inr e))));clear r h3 k3 e0 e1 e2 e3 e4 d0 d1 d2 d3 d4;go_wp2;exact bodyPost_ret (v:=.tuple #[.pointer none,.int .i64 7]) (by simp[results,Tryz.results7,go_sem]) rfl (.inl ⟨P.out.1,rfl,P.out.2.1,P.out.2.2⟩)
 .have P:=Hx (And.intro (And.intro r r2) (And.intro h3.grp (KK.out _ (k3.mono λb e=>.inr e))));clear r r2 h3 k3 e0 e1 e2 e3 e4 d0 d1 d2 d3 d4;go_wp2;exact bodyPost_ret (v:=.tuple #[.pointer none,.int .i64 6]) (by simp[results,Tryz.results7,go_sem]) rfl (.inr (.inl ⟨P.out.1.1,P.out.1.2,rfl,P.out.2.1,P.out.2.2⟩))
 .have P:=Hx (And.intro (And.intro r r2) (And.intro h3 (KK.out _ k3)));have LT:=Hs (w2.heap.size<=w3.heap.size) k3.size;clear r r2 h3 k3 e0 e1 e2 e3 e4 d0 d1 d2 d3 d4;go_wp2;exact bodyPost_ret (v:=.tuple #[.pointer (some ⟨w1.heap.size,0,none⟩),.int .i64 0]) (by simp[results,Tryz.results7,go_sem]) rfl (.inr (.inr ⟨P.out.1.1,P.out.1.2,_,rfl,by rw[Z1.out]; omega,⟨_,P.out.2.1.mono λb e=>e.elim .inl λe=>.inr ⟨e.1,by have:=LT.out; omega⟩⟩,P.out.2.2⟩))
end
section
variable {Y:Nat->Prop} {w:World} {M:Nat} {m:Dm} {t:Tg}
theorem wG(i:Int)(up:Bool)(h:bO Y w M m t) : Calls Tryz.prog 17 #[.pointer (some ⟨M,0,none⟩),.int .i64 i,.bool up] w λe w'=>e=.returned (.int .i64 (t.up i up).2)/\bO Y w' M m (t.up i up).1/\ac (·=m.G) w w':=by
 have H:=Hx h;obtain⟨⟨-,-,-,-,-,-,c6,-⟩,-⟩:=aY h.blk;by_cases hi:i<0\/3<=i
 .have E:=Hs (t.up i up=(t,8)) (if_pos hi);rw[E.out];clear h;by_cases hn:i<0
  .clear hi;go_enter Tryz.func17,Tryz.ntmps17
   go_wp2;go_ret;exact⟨rfl,H.out,ac.refl _ _⟩
  .have h2:2<i:=by omega
   clear hi;go_enter Tryz.func17,Tryz.ntmps17
   go_wp2;go_ret;exact⟨rfl,H.out,ac.refl _ _⟩
 .have E:=Hs (t.up i up=({ t with g:=t.g.setU i.toNat up },0)) (if_neg hi);rw[E.out]
  obtain⟨k,rfl⟩:∃k:Nat,i=k:=⟨i.toNat,by omega⟩
  have hk:k<3:=by omega
  have hu:k<t.g.u.length:=by rw[h.ok.u3]; exact hk
  have d0:w.cell? ⟨m.G,75+k,none⟩=some (.bool t.g.u[k]):=by have:=Gp.atU h.ok hu;simp[World.cell?,h.grp,this]
  have f0:w.frozen? ⟨m.G,75+k,none⟩=false:=by simp[World.frozen?,h.grp]
  have P:=Hs (PG w m.G (t.g.setU k up) (w.setCell ⟨m.G,75+k,none⟩ (.bool up))) (⟨ac.setCell (S:=(·=m.G)) (p:=⟨m.G,75+k,none⟩) (ac.refl _ _) rfl _,h.ok.setU _ _,by
   have:=block_setCell (o:=75+k) h.grp (.bool up);rw[Gp.putU h.ok]at this
   exact this⟩)
  have q1:¬ (k:Int)<0:=by omega
  have q2:¬ 2<(k:Int):=by omega
  have q3:(k:Int)<3:=by omega
  clear hi h;go_enter Tryz.func17,Tryz.ntmps17
  go_wp2;go_ret;exact⟨rfl,H.out.setG P.out,P.out.keeps⟩
theorem Dz{g:Gp}{ep:Int}{i:Nat}(h:g.syncs ep i=false):g.sync ep i=g:=by unfold Gp.sync; rw[if_neg (by rw[h]; decide)]
theorem zr(i:Int)(h:bO Y w M m t) : Calls Tryz.prog 19 #[.pointer (some ⟨M,0,none⟩),.int .i64 i] w λe w'=>e=.returned (.int .i64 (t.sync i).2)/\bO Y w' M m (t.sync i).1/\ac (·=m.G) w w':=by
 have H:=Hx h;have MG:=Hx h.MG;have HL:=Hx (Gl h.blk);obtain⟨⟨-,-,-,-,-,c5,c6,-⟩,-⟩:=aY h.blk;by_cases hi:i<0\/3<=i
 .have E:=Hs (t.sync i=(t,8)) (if_pos hi);rw[E.out];clear h;by_cases hn:i<0
  .clear hi;go_enter Tryz.func19,Tryz.ntmps19
   go_wp2;go_ret;exact⟨rfl,H.out,ac.refl _ _⟩
  .have h2:2<i:=by omega
   clear hi;go_enter Tryz.func19,Tryz.ntmps19
   go_wp2;go_ret;exact⟨rfl,H.out,ac.refl _ _⟩
 .have E:=Hs (t.sync i=if t.g.syncs t.k.ep i.toNat then({ t with g:=t.g.sync t.k.ep i.toNat },0) else(t,7)) (if_neg hi);rw[E.out]
  obtain⟨k,rfl⟩:∃k:Nat,i=k:=⟨i.toNat,by omega⟩
  have hk:k<3:=by omega
  rw[show((k:Int)).toNat=k from rfl];have SY:=Hx (vz t.g t.k.ep k m.G w.drew h.ok hk h.grp);have S0:=Hs (w.drew.cell? ⟨M,5,none⟩=some (.int .i64 t.k.ep)/\w.drew.cell? ⟨M,6,none⟩=some (.pointer (some ⟨m.G,0,none⟩))) (⟨c5,c6⟩)
  have S1:=Hs (∀g w',PG w.drew m.G g w'->w'.cell? ⟨M,5,none⟩=some (.int .i64 t.k.ep)/\w'.cell? ⟨M,6,none⟩=some (.pointer (some ⟨m.G,0,none⟩))) (λg w' f=>by
   have k:=λo=>f.keeps.cell (b:=M) (o:=o) (λe=>MG.out e) HL.out
   exact⟨(k 5).trans S0.out.1,(k 6).trans S0.out.2⟩)
  have q1:¬ (k:Int)<0:=by omega
  have q2:¬ 2<(k:Int):=by omega
  have NS:=Hx (@Dz t.g t.k.ep k);obtain⟨B,hB⟩:=Nm (t.g.syncs t.k.ep k);rw[hB]at SY NS;rw[hB];clear hi h c5 c6 hB;go_enter Tryz.func19,Tryz.ntmps19
  go_wp2
  go_region_held3 (λw'=>w'.cell? ⟨M,5,none⟩=some (.int .i64 t.k.ep)/\w'.cell? ⟨M,6,none⟩=some (.pointer (some ⟨m.G,0,none⟩)))
   (first|with_reducible assumption | with_reducible exact S0.out | with_reducible exact S1.out _ _ (by with_reducible assumption))
   (first
    | (with_reducible refine SY.out.mono ?_; rintro e w' ⟨rfl,hp⟩))
  have P:=Hx (PG.of_drew (by assumption:PG w.drew m.G (t.g.sync t.k.ep k) _));cases B
  .go_wp2;go_ret;refine⟨rfl,?_,P.out.keeps⟩;have:=H.out.setG P.out;rw[NS.out (by simp)]at this;exact this
  .go_wp2;go_ret;exact⟨rfl,H.out.setG P.out,P.out.keeps⟩
end
