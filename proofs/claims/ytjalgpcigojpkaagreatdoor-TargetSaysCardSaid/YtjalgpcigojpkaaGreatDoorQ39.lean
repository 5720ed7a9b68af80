import Derived.Test.YtjalgpcigojpkaaGreatDoorQ38
set_option maxRecDepth 99999
set_option maxHeartbeats 99999999
namespace Go.Proofs.YtjalgpcigojpkaaGreatDoor
section
open Go.RowKit Go.Sort
theorem PG.of_drew{w wx:World}{G:Nat}{h:Gp}(f:PG w.drew G h wx):PG w G h wx:=⟨(ac.refl _ _).drew.trans f.keeps,f.ok,f.hG⟩
section
variable {Y:Nat->Prop} {w:World} {M:Nat} {m:Dm} {t:Tg}
theorem kQ(h:bO Y w M m t)(he:0<=t.k.ep/\t.k.ep<=1000000) : Calls Tryz.prog 57 #[.pointer (some ⟨M,0,none⟩)] w λe w'=>e=.returned (.int .i64 (if t.isReady then 0 else 7))/\PG w m.G t.ready.g w':=by
 have FEN:=Hx (tZ t.g t.k.ep m.G w.drew h.ok (by omega) h.grp);have MG:=Hx h.MG;have HB:=Hx h.blk;have HL:=Hx (Gl h.blk);obtain⟨⟨c0,c1,c2,c3,c4,c5,c6,c7,c8,c9,c10,c11⟩,hf⟩:=aY h.blk;have S0:=Hs (w.drew.cell? ⟨M,5,none⟩=some (.int .i64 t.k.ep)/\w.drew.cell? ⟨M,6,none⟩=some (.pointer (some ⟨m.G,0,none⟩))) (⟨c5,c6⟩)
 have S1:=Hs (∀g w',PG w.drew m.G g w'->w'.cell? ⟨M,5,none⟩=some (.int .i64 t.k.ep)/\w'.cell? ⟨M,6,none⟩=some (.pointer (some ⟨m.G,0,none⟩))) (λg w' f=>by
  have k:=λo=>f.keeps.cell (b:=M) (o:=o) (λe=>MG.out e) HL.out
  exact⟨(k 5).trans S0.out.1,(k 6).trans S0.out.2⟩)
 obtain⟨B,hB⟩:=Nm t.isReady;rw[show decide (2<=((t.g.fence t.k.ep).mem t.k.ep).length)=B from hB]at FEN;rw[hB];clear h hB c0 c1 c2 c3 c4 c7 c8 c9 c10 c11 hf;go_enter Tryz.func57,Tryz.ntmps57
 go_wp2
 go_region_held3 (λw'=>w'.cell? ⟨M,5,none⟩=some (.int .i64 t.k.ep)/\w'.cell? ⟨M,6,none⟩=some (.pointer (some ⟨m.G,0,none⟩)))
  (first|with_reducible assumption | with_reducible exact S0.out | with_reducible exact S1.out _ _ (by with_reducible assumption))
  (first
   | (with_reducible refine FEN.out.mono ?_; rintro e w' ⟨rfl,hp⟩))
 cases B
 .go_wp2;go_ret;exact⟨rfl,PG.of_drew (by assumption)⟩
 .go_wp2;go_ret;exact⟨rfl,PG.of_drew (by assumption)⟩
theorem Dm.own_nw{m:Dm}{M b:Nat}(h:Dm.own { m with wa:=none,wc:=0 } M b):m.own M b:=by
 rcases h with h | h | ⟨o,h⟩ | h | h
 .exact .inl h
 .exact .inr (.inl h)
 .cases h
 .exact .inr (.inr (.inr (.inl h)))
 .exact .inr (.inr (.inr (.inr h)))
def Tg.nexted(t:Tg)(s:St):Tg:={ t with k:=⟨t.k.d,t.k.num,t.k.ep+1,s⟩,g:=(t.g.fence t.k.ep).fence (t.k.ep+1),num:=0,wait:=[] }
def ry(Y:Nat->Prop)(w:World)(M:Nat)(m:Dm)(t:Tg)(s:St)(e:Ending)(w':World):Prop :=
 (t.isReady=false/\e=.returned (.int .i64 7)/\bO Y w' M m t.ready/\ac (·=m.G) w w')\/(t.isReady=true/\t.k.ep=1000000/\e=.returned (.int .i64 6)/\bO Y w' M m t.ready/\ac (·=m.G) w w') \/
  (t.isReady=true/\t.k.ep≠1000000/\e=.returned (.int .i64 0)/\∃m',bO Y w' M m' (t.nexted s)/\m'.G=m.G/\(∀b,m'.own M b->m.own M b)/\ac (λb=>b=M\/b=m.G) w w')
theorem xN(h:w.heap[M]?=some (.cells (eT m t) 78 (0,0)))(s:St)(a:Option Addr)(c:Nat) : (((((w.setCell ⟨M,0,none⟩ (.int .i64 s.gen)).setCell ⟨M,1,none⟩ (.slice a s.regs.length c)).setCell ⟨M,2,none⟩ (.int .i64 s.typ)).setCell ⟨M,3,none⟩ (.int .i64 s.holder)).setCell ⟨M,4,none⟩ (.bool s.stays)).heap[M]? = some (.cells (eT { m with sa:=a,sc:=c } { t with k:=⟨t.k.d,t.k.num,t.k.ep,s⟩ }) 78 (0,0)) :=
 block_setCell (o:=4) (block_setCell (o:=3) (block_setCell (o:=2) (block_setCell (o:=1) (block_setCell (o:=0) h _) _) _) _) _
theorem iT{S:Nat->Prop}{x:World}(h:ac S x w)(hM:S M)(v0 v1 v2 v3 v4:Value):ac S x (((((w.setCell ⟨M,0,none⟩ v0).setCell ⟨M,1,none⟩ v1).setCell ⟨M,2,none⟩ v2).setCell ⟨M,3,none⟩ v3).setCell ⟨M,4,none⟩ v4) :=
 ((((h.setCell hM v0).setCell hM v1).setCell hM v2).setCell hM v3).setCell hM v4
theorem mB(s:St)(a:Option Addr)(cap:Nat)(h:bO Y w M m t)(he:0<=t.k.ep/\t.k.ep<=1000000)(hl:s.regs.length<=maxLen)(hs:dB (λb=>Y b/\¬ m.own M b) w a s.regs) :
  Calls Tryz.prog 40 #[.pointer (some ⟨M,0,none⟩),dh s a cap] w λe w'=>ry Y w M m t s e w':=by
 obtain⟨w1,pX⟩:=Nn (w.alloc (.cells #[.int .i64 s.gen,.slice a s.regs.length cap,.int .i64 s.typ,.int .i64 s.holder,.bool s.stays] 34));have B1:=Hs (Below w.heap.size w w1) (pX▸ay w _);have R1:=Hs (w1.heap[w.heap.size]?=some (.cells #[.int .i64 s.gen,.slice a s.regs.length cap,.int .i64 s.typ,.int .i64 s.holder,.bool s.stays] 34 (0,0))) (pX▸heap_alloc_new w _);have H1:=Hx (h.over B1.out);have NS:=Hs (w.heap.size≠m.G/\w.heap.size≠M) (⟨λe=>by have:=h.own_lt m.G (.inr (.inl rfl)); omega,λe=>by have:=h.own_lt M (.inl rfl); omega⟩);have HS:=Hx hs;have HL:=Hx hl;have RDY:=Hx (kQ H1.out he);have q1:IntKind.i64.wrap (t.k.ep+1)=t.k.ep+1:=IntWalk.i64_in _ (by omega);have E0:=Hx he;clear h hs hl he;go_enter Tryz.func40,Tryz.ntmps40
 go_upto_region 1 with fail;rw[<-pX];clear pX;go_wp2_with fail;refine RDY.out.mono ?_;rintro e w2 ⟨rfl,f2⟩;have F2:=Hx f2;have H2:=Hs (bO Y w2 M m t.ready) (H1.out.setG f2);have K2:=Hs (ac (·=m.G) w w2) ((ac.of_below B1.out).trans f2.keeps);clear f2 RDY;cases Jy:t.isReady
 .simp only[Bool.false_eq_true,if_false];go_wp2;go_ret;exact .inl ⟨Jy,rfl,H2.out,K2.out⟩
 simp only[if_true];have HRD:=Hx Jy;clear Jy;obtain⟨⟨c0,c1,c2,c3,c4,c5,c6,c7,c8,c9,c10,c11⟩,hf⟩:=aY H2.out.blk;replace c5:w2.cell? ⟨M,5,none⟩=some (.int .i64 t.k.ep):=c5;have hf5:=hf 5;have hf11:=hf 11;have hf13:=hf 13;by_cases hep:t.k.ep=1000000
 .have q:(t.k.ep == 1000000)=true:=by simp[hep]
  have HE:=Hx hep;clear hep;go_wp2;go_ret;exact .inr (.inl ⟨HRD.out,HE.out,rfl,H2.out,K2.out⟩)
 have q:(t.k.ep == 1000000)=false:=by simp[hep]
 have HE:=Hx hep;clear hep c0 c1 c2 c3 c4 c6 c10 c11;go_upto_region 9 with fail;obtain⟨w3,Ip⟩:=Nn (((w2.setCell ⟨M,5,none⟩ (.int .i64 (t.k.ep+1))).setCell ⟨M,11,none⟩ (.int .i64 0)).setCell ⟨M,13,none⟩ (.slice none 0 0))
 have K3:=Hs (ac (·=M) w2 w3) (by
  rw[Ip]
  exact ac.setCell (S:=(·=M)) (p:=⟨M,13,none⟩) (ac.setCell (S:=(·=M)) (p:=⟨M,11,none⟩) (ac.setCell (S:=(·=M)) (p:=⟨M,5,none⟩) (ac.refl _ _) rfl _) rfl _) rfl _)
 have H3:=Hs (bO Y w3 M { m with wa:=none,wc:=0 } { t.ready with k:=⟨t.k.d,t.k.num,t.k.ep+1,t.k.s⟩,num:=0,wait:=[] }) (  H2.out.turn K3.out (Ip▸block_setCell (o:=13) (block_setCell (o:=11) (block_setCell (o:=5) H2.out.blk _) _) _) (λ_ e=>e) rfl rfl
   (λb e=>Dm.own_nw e)
   H2.out.len (H2.out.str.to K3.out.size λb e hb=>⟨K3.out.block b (λq=>e.2 (.inl q)) hb,e⟩) (λk=>(H2.out.box k).to K3.out.size λb e hb=>⟨K3.out.block b (λq=>e.2 (.inl q)) hb,e⟩) (.inr ⟨rfl,rfl,rfl⟩) ⟨rfl,rfl,rfl⟩ ⟨rfl,rfl,rfl,rfl⟩)
 have RD2:=Hx ((kQ H3.out (by have:=E0.out; have:=HE.out; dsimp only; omega)).mono λe w' ⟨h1,h2⟩=>(⟨⟨_,h1⟩,h2⟩:(∃v:Int,e=Ending.returned (.int .i64 v))/\PG w3 m.G _ w'));have LS:=Hx (Gl R1.out);have R3:=Hx ((K3.out.block _ NS.out.2 (Nat.lt_of_lt_of_le LS.out F2.out.keeps.size)).trans ((F2.out.keeps.block _ NS.out.1 LS.out).trans R1.out));rw[<-Ip];clear Ip c5 c7 c8 c9 hf hf5 hf11 hf13;go_wp2_with fail;refine RD2.out.mono ?_;rintro e w4 ⟨⟨v2,rfl⟩,f4⟩;have F4:=Hx f4;have H4:=Hx (H3.out.setG f4);have R4:=Hx ((f4.keeps.block _ NS.out.1 (Gl R3.out)).trans R3.out);clear f4 RD2;obtain⟨⟨e0,e1,e2,e3,e4⟩,-⟩:=cells5 R4.out;obtain⟨⟨c0,c1,c2,c3,c4,-⟩,hf⟩:=aY H4.out.blk;have g0:=hf 0;have g1:=hf 1;have g2:=hf 2;have g3:=hf 3;have g4:=hf 4;clear hf;go_wp2;go_ret;have K5:=iT (M:=M) (ac.refl (·=M) w4) rfl (.int .i64 s.gen) (.slice a s.regs.length cap) (.int .i64 s.typ) (.int .i64 s.holder) (.bool s.stays);have KW:∀ {S:Nat->Prop} {x y:World},ac S x y->(∀b,S b->b=M\/b=m.G)->ac (λb=>b=M\/b=m.G) x y:=λk q=>k.mono q;have KA:=(((KW K2.out λb e=>.inr e).trans (KW K3.out λb e=>.inl e)).trans (KW F4.out.keeps λb e=>.inr e)).trans (KW K5 λb e=>.inl e);refine .inr (.inr ⟨HRD.out,HE.out,rfl,_,H4.out.turn K5 (xN H4.out.blk s a cap) (λ_ e=>e) rfl rfl (λ_ e=>e) HL.out ?_ (λk=>(H4.out.box k).to K5.size λb e hb=>⟨K5.block b (λq=>e.2 (.inl q)) hb,e⟩) (.inl ⟨rfl,rfl,rfl⟩) ⟨rfl,rfl,rfl⟩ ⟨rfl,rfl,rfl,rfl⟩,rfl,λ_ e=>Dm.own_nw e,KA⟩)
 refine HS.out.to KA.size λb e hb=>⟨KA.block b (λq=>e.2 (q.elim .inl λq=>.inr (.inl q))) hb,e.1,λq=>e.2 (Dm.own_nw q)⟩
end
def bL (Y:Nat->Prop)(w w':World)(b:Nat):Prop:=Y b\/(w.heap.size<=b/\b<w'.heap.size)
theorem lj{X:Nat->Prop}{w:World}{n:Nat}{T:TypeId}(h:w.heap[n]?=some (.cells #[.int .i64 4] T (0,0)))(hX:X n):ni X w ⟨some ⟨n,0,none⟩,[4],1⟩ [4]:=by
 refine⟨λi hi=>?_,by simp,by simp,rfl⟩
 have:i=0:=by simpa using hi
 subst this;exact⟨n,0,rfl,hX,(Gl h),by simp[World.cell?,h]⟩
theorem DX(k:Int):Bl.pow.get k=[4]:=by
 unfold Bl.get Bl.pow
 repeat' split
 all_goals rfl
section
variable {Y:Nat->Prop} {w:World} {M:Nat} {m:Dm} {t:Tg}
theorem uL(h:bO Y w M m t) : Calls Tryz.prog 70 #[.pointer (some ⟨M,7,none⟩)] w λe w'=>e=.returned (.tuple #[])/\(∃b,bO (bL Y w w') w' M { m with b:=b } { t with b:=Bl.pow })/\ac (·=M) w w':=by
 have lB:M<w.heap.size:=(Gl h.blk)
 have OL:=Hx h.own_lt;obtain⟨w4,Iq⟩:=Nn ((((w.alloc (.cells #[.int .i64 4] 3)).alloc (.cells #[.int .i64 4] 3)).alloc (.cells #[.int .i64 4] 3)).alloc (.cells #[.int .i64 4] 3));have B4:=Hs (Below w.heap.size w w4) (by rw[Iq]; exact(((ay w _).alloc (by simp) _).alloc (by simp; omega) _).alloc (by simp; omega) _);have Z4:=Hs (w4.heap.size=w.heap.size+4) (by rw[Iq]; simp);have A0:=Hs (w4.heap[w.heap.size]?=some (.cells #[.int .i64 4] 3 (0,0))) (by rw[Iq]; exact cU _ (cU _ (cU _ (at_end _ _ rfl))));have A1:=Hs (w4.heap[w.heap.size+1]?=some (.cells #[.int .i64 4] 3 (0,0))) (by rw[Iq]; exact cU _ (cU _ (at_end _ _ (by simp))));have A2:=Hs (w4.heap[w.heap.size+1+1]?=some (.cells #[.int .i64 4] 3 (0,0))) (by rw[Iq]; exact cU _ (at_end _ _ (by simp)));have A3:=Hs (w4.heap[w.heap.size+1+1+1]?=some (.cells #[.int .i64 4] 3 (0,0))) (by rw[Iq]; exact at_end _ _ (by simp));have H4:=Hx (h.over B4.out);obtain⟨d0,f0⟩:=cells_at H4.out.blk (k:=7) (v:=m.b.s1.v) rfl;obtain⟨d1,f1⟩:=cells_at H4.out.blk (k:=8) (v:=m.b.s2.v) rfl;obtain⟨d2,f2⟩:=cells_at H4.out.blk (k:=9) (v:=m.b.s3.v) rfl;obtain⟨d3,f3⟩:=cells_at H4.out.blk (k:=10) (v:=m.b.s4.v) rfl;clear h;rw[Iq]at d0 d1 d2 d3 f0 f1 f2 f3;go_enter Tryz.func70,Tryz.ntmps70
 go_wp2;go_end0;rw[<-Iq];obtain⟨w5,Jc⟩:=Nn ((((w4.setCell ⟨M,7,none⟩ (.slice (some ⟨w.heap.size,0,none⟩) 1 1)).setCell ⟨M,8,none⟩ (.slice (some ⟨w.heap.size+1,0,none⟩) 1 1)).setCell ⟨M,9,none⟩ (.slice (some ⟨w.heap.size+1+1,0,none⟩) 1 1)).setCell ⟨M,10,none⟩ (.slice (some ⟨w.heap.size+1+1+1,0,none⟩) 1 1))
 have K5:ac (·=M) w4 w5:=by rw[Jc];exact ac.setCell (S:=(·=M)) (p:=⟨M,10,none⟩) (ac.setCell (S:=(·=M)) (p:=⟨M,9,none⟩) (ac.setCell (S:=(·=M)) (p:=⟨M,8,none⟩) (ac.setCell (S:=(·=M)) (p:=⟨M,7,none⟩) (ac.refl _ _) rfl _) rfl _) rfl _) rfl _
 have H5:w5.heap[M]?=some (.cells (eT { m with b:=⟨⟨some ⟨w.heap.size,0,none⟩,[4],1⟩,⟨some ⟨w.heap.size+1,0,none⟩,[4],1⟩,⟨some ⟨w.heap.size+1+1,0,none⟩,[4],1⟩,⟨some ⟨w.heap.size+1+1+1,0,none⟩,[4],1⟩⟩ } { t with b:=Bl.pow }) 78 (0,0)) :=
  Jc▸block_setCell (o:=10) (block_setCell (o:=9) (block_setCell (o:=8) (block_setCell (o:=7) H4.out.blk _) _) _) _
 have Z5:w5.heap.size=w.heap.size+4:=by rw[Jc,<-Z4.out]; simp[World.setCell]
 have NX:∀i,i<4->bL Y w w5 (w.heap.size+i)/\¬ m.own M (w.heap.size+i):=λi hi=>⟨.inr ⟨by omega,by omega⟩,λe=>by have:=OL.out _ e; omega⟩
 have ne:∀i,w.heap.size+i≠M:=λi=>by omega
 have hb:=λ(n:Nat) (hn:n≠M) (hl:n<w4.heap.size)=>K5.block n hn hl;rw[<-Jc];refine⟨rfl,⟨_,H4.out.turn K5 H5 (λb e=>.inl e) rfl rfl (λ_ e=>e) H4.out.len (H4.out.str.to K5.size λb e hb=>⟨K5.block b (λq=>e.2 (.inl q)) hb,.inl e.1,e.2⟩) (λk=>?_) (.inl ⟨rfl,rfl,rfl⟩) ⟨rfl,rfl,rfl⟩ ⟨rfl,rfl,rfl,rfl⟩⟩,(ac.of_below B4.out).trans K5⟩;rw[DX]
 refine sM (p:=λs=>ni (λb=>bL Y w w5 b/\¬ m.own M b) w5 s [4]) (lj ((hb _ (ne 0) (by rw[Z4.out]; omega)).trans A0.out) (NX 0 (by omega))) (lj ((hb _ (ne 1) (by rw[Z4.out]; omega)).trans A1.out) (NX 1 (by omega)))
  (lj ((hb _ (ne 2) (by rw[Z4.out]; omega)).trans A2.out) (NX 2 (by omega))) (lj ((hb _ (ne 3) (by rw[Z4.out]; omega)).trans A3.out) (NX 3 (by omega))) k
def Di(Y:Nat->Prop)(w:World)(M:Nat)(m:Dm)(t:Tg)(e:Ending)(w':World):Prop :=
 (t.isReady=false/\e=.returned (.int .i64 7)/\bO Y w' M m t.ready/\ac (·=m.G) w w')\/(t.isReady=true/\t.k.ep=1000000/\e=.returned (.int .i64 6)/\bO Y w' M m t.ready/\ac (·=m.G) w w') \/
  (t.isReady=true/\t.k.ep≠1000000/\e=.returned (.int .i64 0)/\(∃m',bO (bL Y w w') w' M m' { t.nexted t.k.s.lost with b:=Bl.pow }/\m'.G=m.G)/\ac (λb=>b=M\/b=m.G) w w')
theorem wH(h:bO Y w M m t)(he:0<=t.k.ep/\t.k.ep<=1000000) : Calls Tryz.prog 21 #[.pointer (some ⟨M,0,none⟩)] w λe w'=>Di Y w M m t e w':=by
 have H:=Hx h;have E0:=Hx he;have HL:=h.len;obtain⟨⟨c0,c1,c2,c3,c4,-⟩,hf⟩:=aY h.blk
 have FIN:=Hx (show ∀w1 w2 m',Below w.heap.size w w1->bO Y w2 M m' (t.nexted t.k.s.lost)->m'.G=m.G->ac (λb=>b=M\/b=m.G) w1 w2 ->
   Calls Tryz.prog 70 #[.pointer (some ⟨M,7,none⟩)] w2 λe w3=>e=.returned (.tuple #[])/\(∃m',bO (bL Y w w3) w3 M m' { t.nexted t.k.s.lost with b:=Bl.pow }/\m'.G=m.G)/\ac (λb=>b=M\/b=m.G) w w3 from λw1 w2 m' b1 h2 eG k2=>by
  refine(uL h2).mono ?_;rintro e w3 ⟨e1,⟨b,h3⟩,k3⟩;have hz:=(ac.of_below (S:=λb=>b=M\/b=m.G) b1).trans k2
  exact⟨e1,⟨_,h3.mono (λc q=>q.elim .inl λq=>.inr ⟨Nat.le_trans hz.size q.1,q.2⟩),eG⟩,hz.trans (k3.mono λc q=>.inl q)⟩)
 have NX:=Hx (show ∀(s:St) (a:Option Addr) (c:Nat) (o:Obj),s=t.k.s.lost->s.regs.length<=maxLen->dB (λb=>Y b/\¬ m.own M b) w a s.regs ->
   Calls Tryz.prog 40 #[.pointer (some ⟨M,0,none⟩),dh s a c] (w.alloc o) λe w'=>ry Y (w.alloc o) M m t t.k.s.lost e w' from λs a c o e hl hs=>by
  subst e;have b:=ay w o
  exact mB _ a c (H.out.over b) E0.out hl (hs.to b.size λn q hn=>⟨b.block n hn,q⟩))
 cases I7:t.k.s.stays
 .rw[I7]at c4;have N0:=Hx (λo=>NX.out ⟨0,[],0,0,false⟩ none 0 o (by unfold St.lost; rw[I7]; rfl) (by simp) (λi hi=>absurd hi (by simp)));clear h he NX I7;go_enter Tryz.func21,Tryz.ntmps21
  go_wp2_with fail;refine(N0.out _).mono ?_;rintro e w2 (⟨r,rfl,h2,k2⟩ | ⟨r,r2,rfl,h2,k2⟩ | ⟨r,r2,rfl,m',h2,eG,-,k2⟩)
  .have KK:=Hx ((ac.of_below (ay w _)).trans k2);have H2:=Hx h2;have RR:=Hx r;clear k2 h2 r;go_wp2;go_ret;exact .inl ⟨RR.out,rfl,H2.out,KK.out⟩
  .have KK:=Hx ((ac.of_below (ay w _)).trans k2);have H2:=Hx h2;have RR:=Hx (And.intro r r2);clear k2 h2 r r2;go_wp2;go_ret;exact .inr (.inl ⟨RR.out.1,RR.out.2,rfl,H2.out,KK.out⟩)
  .have BP:=Hx (FIN.out _ w2 m' (ay w _) h2 eG k2);have RR:=Hx (And.intro r r2);clear k2 h2 r r2;go_wp2_with fail;refine BP.out.mono ?_;rintro e w3 ⟨rfl,h3,k3⟩;have H3:=Hx (And.intro h3 k3);clear h3 k3;go_wp2;go_ret;exact .inr (.inr ⟨RR.out.1,RR.out.2,rfl,H3.out.1,H3.out.2⟩)
 .rw[I7]at c4;have N0:=Hx (λo=>NX.out ⟨0,t.k.s.regs,t.k.s.typ,t.k.s.holder,true⟩ m.sa m.sc o (by unfold St.lost; rw[if_pos I7]; congr 1; exact I7.symm) HL H.out.str);clear h he NX I7;go_enter Tryz.func21,Tryz.ntmps21
  go_wp2_with fail;refine(N0.out _).mono ?_;rintro e w2 (⟨r,rfl,h2,k2⟩ | ⟨r,r2,rfl,h2,k2⟩ | ⟨r,r2,rfl,m',h2,eG,-,k2⟩)
  .have KK:=Hx ((ac.of_below (ay w _)).trans k2);have H2:=Hx h2;have RR:=Hx r;clear k2 h2 r;go_wp2;go_ret;exact .inl ⟨RR.out,rfl,H2.out,KK.out⟩
  .have KK:=Hx ((ac.of_below (ay w _)).trans k2);have H2:=Hx h2;have RR:=Hx (And.intro r r2);clear k2 h2 r r2;go_wp2;go_ret;exact .inr (.inl ⟨RR.out.1,RR.out.2,rfl,H2.out,KK.out⟩)
  .have BP:=Hx (FIN.out _ w2 m' (ay w _) h2 eG k2);have RR:=Hx (And.intro r r2);clear k2 h2 r r2;go_wp2_with fail;refine BP.out.mono ?_;rintro e w3 ⟨rfl,h3,k3⟩;have H3:=Hx (And.intro h3 k3);clear h3 k3;go_wp2;go_ret;exact .inr (.inr ⟨RR.out.1,RR.out.2,rfl,H3.out.1,H3.out.2⟩)
end
theorem ej{P:Program}{w w':World}{ops:Array Oper}{o:Oper}{a:Act}{K:Act->World->Prop}{Q:Exit->Act->World->Prop}{E:Prop}{v y r:Value}(I9:o.guard=none)(s x:Operand)(t:TypeId)(ho:o.op=.call { callee:=.builtin .append,args:=#[s,x],argTypes:=#[t,t] })(hs:a.eval s=v)(hx:a.eval x=y)(II:(Builtin.append_ #[t,t] o.type #[v,y]).run P w=.ok r w')(h:K (a.put o.dst r) w'):if Region.wanted o (yielded ops a.tmps)=true then Oper.wp P o a w K Q else E:=by
 have hw:Region.wanted o (yielded ops a.tmps)=true:=by simp[Region.wanted,I9]
 rw[if_pos hw];unfold Oper.wp execOp;simp only[ho,resolve,invoke,builtin,Sem.run_bind,Sem.run_pure,Result.andThen_ok,List.map_toArray,List.map_cons,List.map_nil,hs,hx,II];exact h
theorem mL(B:Nat)(l:List Ms)(a:Option Addr)(cap k:Nat)(w:World)(hl:l.length<=1000)(hk:k<l.length)(h:dC B w (.slice a l.length cap) l) : Calls Tryz.prog 63 #[.slice a l.length cap,.int .i64 k] w λe w'=>∃v,e=.returned v/\dC w.heap.size w' v (l.eraseIdx k)/\Below w.heap.size w w':=by
 obtain⟨i0,hi,Ij,Ii,Im⟩:=info_parts Tryz.infoMsg
 obtain⟨g,rfl,IF⟩:∃g,a=some ⟨g,0,none⟩/\l.length<=cap:=by
  obtain⟨-,h2 | ⟨g,c,cur,e,hg,hh,hc,-⟩⟩:=h
  .have:=h2.2; omega
  .simp only[Value.slice.injEq]at e;exact⟨g,e.1,by omega⟩
 have wU:=λj u hj=>dC.cells h j u hj;obtain⟨n,hn⟩:=Nm l.length;have fl:=dj l;have ft:=qY l k;have fd:=ir l (k+1)
 obtain⟨v1,w1,run1,own1,gr1,-⟩:=run_append_own (P:=Tryz.prog) w.drew w.heap.size 76 76 124 i0 _ 6 56 Tryz.underlying76 hi Ij Ii Im rfl (by omega) (.slice none 0 0) 0 [] (World.ownsRow_nil w.drew _ _ _) ⟨g,0,none⟩ k cap (cq (l.take k))
  (by rw[dj,List.length_take]; omega) (λj u hj=>by
   rw[<-ft,List.getElem?_take]at hj
   split at hj
   .exact wU j u hj
   .cases hj) (jv _) (by unfold maxLen; omega) (by omega) (Nat.le_refl _)
 have b1:Below w.heap.size w w1:=(Below.refl _ _).drew.grown gr1 (Nat.le_refl _) (λq hq=>by cases hq)
 have glt:g<w.heap.size:=by
  obtain⟨-,h2 | ⟨g',c,cur,e,hg,hh,-⟩⟩:=h
  .have:=h2.2; omega
  .simp only[Value.slice.injEq,Option.some.injEq,Addr.mk.injEq]at e;obtain⟨⟨rfl,-⟩,-⟩:=e;exact(Gl hh)
 have key:=Hs (∀o2 m c,m=l.length - k - 1->(m≠0->o2=(k+1)*6)->∃v2 w2,(Builtin.append_ #[76,76] 76 #[v1,.slice (some ⟨g,o2,none⟩) m c]).run Tryz.prog w1=.ok v2 w2/\dC w.heap.size w2 v2 (l.eraseIdx k)/\Below w.heap.size w w2) (λo2 m c hm ho=>by
  obtain⟨v2,w2,run2,own2,gr2,-⟩:=run_append_own (P:=Tryz.prog) w1 w.heap.size 76 76 124 i0 _ 6 56 Tryz.underlying76 hi Ij Ii Im rfl (by omega) v1 _ _ own1 ⟨g,o2,none⟩ m c (cq (l.drop (k+1)))
   (by rw[dj,List.length_drop]; omega) (λj u hj=>by
    have J8:=(List.getElem?_eq_some_iff.1 hj).1;rw[dj,List.length_drop]at J8;obtain rfl:=ho (by omega);rw[<-fd,List.getElem?_drop]at hj;have:=wU _ u hj;rw[Addr.add_mid]at this ⊢;rw[b1.cell (p:=⟨g,(k+1)*6+j,none⟩) glt];rw[Nat.zero_add]at this
    exact this) (jv _) (by unfold maxLen; omega) (by omega) b1.size
  refine⟨v2,w2,run2,?_,b1.grown gr2 b1.size (λq hq=>(World.ownsRow.lt own1 q hq).1)⟩
  have e:(l.eraseIdx k).length=0+k+m:=by rw[List.length_eraseIdx_of_lt hk]; omega
  unfold dC;rw[e,pv,ft,fd]
  exact own2)
 have q1:IntKind.i64.wrap ((k:Int)+1)=(k:Int)+1:=IntWalk.i64_in _ (by omega)
 have q3:(0:Int)<=(k:Int)+1:=by omega
 have q4:((k:Int)+1).toNat=k+1:=by omega
 have q5:(0:Int)<=(k:Int):=by omega
 have q6:(k:Int)<=(cap:Int):=by omega
 have q7:(k:Int)+1<=(n:Int):=by omega
 have q8:(n:Int)<=(cap:Int):=by omega
 rw[hn]at key ⊢;clear h wU fl ft fd own1 gr1;by_cases hc:cap=k+1
 .subst hc;obtain⟨v2,w2,run2,own2,b2⟩:=key.out 0 0 0 (by omega) (by omega);have R:=Hx (And.intro own2 b2)
  obtain rfl:n=k+1:=by omega
  have e1:(k:Int)<=(k:Int)+1:=by omega
  have e2:(k:Int)+1<=(k:Int)+1:=by omega
  clear own2 b2 key;have RN:=Hx (And.intro run1 run2);clear run1 run2;go_enter Tryz.func63,Tryz.ntmps63
  go_wp2
  go_region_held3 (λ_=>True)
   (trivial)
   (first
    | (refine ej rfl _ _ _ rfl rfl rfl RN.out.1 ?_)
    | (refine ej rfl _ _ _ rfl rfl rfl RN.out.2 ?_))
  go_wp2;go_ret;exact⟨_,rfl,R.out.1,R.out.2⟩
 .obtain⟨v2,w2,run2,own2,b2⟩:=key.out ((k+1)*6) (n - k - 1) (cap - k - 1) rfl (λ_=>rfl);have R:=Hx (And.intro own2 b2);clear own2 b2 key;have RN:=Hx (And.intro run1 run2);clear run1 run2;go_enter Tryz.func63,Tryz.ntmps63
  go_wp2
  go_region_held3 (λ_=>True)
   (trivial)
   (first
    | (refine ej rfl _ _ _ rfl rfl rfl RN.out.1 ?_)
    | (refine ej rfl _ _ _ rfl rfl rfl RN.out.2 ?_))
  go_wp2;go_ret;exact⟨_,rfl,R.out.1,R.out.2⟩
section
variable {Y:Nat->Prop} {w w1:World} {M:Nat} {m:Dm} {t:Tg}
theorem tU{B C:Nat}{E:TypeId}{z k:Nat}{v:Value}{xs:List Value}(h:w.ownsRow B E z v k xs)(hC:C<=B):w.ownsRow C E z v k xs :=
 ⟨h.1,h.2.elim .inl λ⟨g,cap,cur,e,hg,r⟩=>.inr ⟨g,cap,cur,e,Nat.le_trans hC hg,r⟩⟩
theorem kq{B:Nat}{E:TypeId}{z n c k:Nat}{a:Option Addr}{xs:List Value}(h:w.ownsRow B E z (.slice a n c) k xs){b o:Nat}(e:a=some ⟨b,o,none⟩):B<=b/\b<w.heap.size:=by
 obtain⟨-,h2 | ⟨g,c',cur,e1,hg,hh,-⟩⟩:=h
 .rw[e]at h2; cases h2.1
 .rw[e]at e1;simp only[Value.slice.injEq,Option.some.injEq,Addr.mk.injEq]at e1;obtain⟨⟨rfl,-⟩,-⟩:=e1;exact⟨hg,(Gl hh)⟩
theorem bO.newFly(h:bO Y w M m t)(b1:Below w.heap.size w w1){fa:Option Addr}{fc:Nat}{l:List Ms}(own:dC w.heap.size w1 (.slice fa l.length fc) l) : bO (bL Y w w1) (w1.setCell ⟨M,14,none⟩ (.slice fa l.length fc)) M { m with fa:=fa,fc:=fc } { t with fly:=l }/\ac (·=M) w (w1.setCell ⟨M,14,none⟩ (.slice fa l.length fc)):=by
 have lt:=h.own_lt;have H:=h.over b1;have kp:ac (·=M) w1 (w1.setCell ⟨M,14,none⟩ (.slice fa l.length fc)):=ac.setCell (S:=(·=M)) (p:=⟨M,14,none⟩) (ac.refl _ _) rfl _
 have hz:(w1.setCell ⟨M,14,none⟩ (.slice fa l.length fc)).heap.size=w1.heap.size:=by simp[World.setCell]
 have kb:∀b,b≠M->b<w1.heap.size->(w1.setCell ⟨M,14,none⟩ (.slice fa l.length fc)).heap[b]?=w1.heap[b]?:=λb e hb=>kp.block b e hb
 have rd:∀b,(Y b/\¬ m.own M b)->b<w.heap.size->bL Y w w1 b/\¬ Dm.own { m with fa:=fa,fc:=fc } M b:=λb e hb=>⟨.inl e.1,λq=>by
  rcases q with q | q | q | ⟨o,q⟩ | q
  .exact e.2 (.inl q)
  .exact e.2 (.inr (.inl q))
  .exact e.2 (.inr (.inr (.inl q)))
  .have:=(kq own q).1; omega
  .exact e.2 (.inr (.inr (.inr (.inr q))))⟩
 have k0:=(ac.of_below (S:=(·=M)) b1).trans kp
 refine⟨⟨block_setCell H.blk _,(kb _ h.MG.symm (H.own_lt _ (.inr (.inl rfl)))).trans H.grp,h.ok,h.len,h.str.to k0.size λb e hb=>⟨k0.block b (λq=>e.2 (.inl q)) hb,rd b e hb⟩,λk=>(h.box k).to k0.size λb e hb=>⟨k0.block b (λq=>e.2 (.inl q)) hb,rd b e hb⟩,
  bZ H.wait λb o e=>kb b (H.Mw e).1 (H.own_lt b (.inr (.inr (.inl ⟨o,e⟩)))),bZ (tU own (Nat.zero_le _)) λb o e=>kb b (λq=>by have:=(kq own e).1; have:=lt M (.inl rfl); omega) (kq own e).2,
  bZ H.done λb o e=>kb b (H.Md e).1 (H.own_lt b (.inr (.inr (.inr (.inr ⟨o,e⟩))))),λb e=>?_,h.eq,h.cnt⟩,k0⟩
 rcases e with e | e | e | ⟨o,e⟩ | e
 .exact .inl (h.own b (.inl e))
 .exact .inl (h.own b (.inr (.inl e)))
 .exact .inl (h.own b (.inr (.inr (.inl e))))
 .exact .inr (kq own e)
 .exact .inl (h.own b (.inr (.inr (.inr (.inr e)))))
theorem zv(i:Int)(h:bO Y w M m t)(hl:t.fly.length<=1000) : Calls Tryz.prog 15 #[.pointer (some ⟨M,0,none⟩),.int .i64 i] w λe w'=>e=.returned (.int .i64 (t.lose i).2)/\(∃m',bO (bL Y w w') w' M m' (t.lose i).1/\m'.G=m.G)/\ac (·=M) w w':=by
 have H:=Hx h;obtain⟨⟨-,-,-,-,-,-,-,-,-,-,c10,-⟩,hf⟩:=aY h.blk;have hf14:=hf 14;by_cases hi:i<0\/(t.fly.length:Int)<=i
 .have E:=Hs (t.lose i=(t,8)) (if_pos hi);rw[E.out];have R:=Hs ((∃m',bO (bL Y w w) w M m' t/\m'.G=m.G)) (⟨m,h.mono (λb e=>.inl e),rfl⟩);clear h hf;by_cases hn:i<0
  .clear hi;go_enter Tryz.func15,Tryz.ntmps15
   go_wp2;go_ret;exact⟨rfl,R.out,ac.refl _ _⟩
  .have h2:(t.fly.length:Int)<=i:=by omega
   clear hi;go_enter Tryz.func15,Tryz.ntmps15
   go_wp2;go_ret;exact⟨rfl,R.out,ac.refl _ _⟩
 .have E:=Hs (t.lose i=({ t with fly:=t.fly.eraseIdx i.toNat },0)) (if_neg hi);rw[E.out]
  obtain⟨k,rfl⟩:∃k:Nat,i=k:=⟨i.toNat,by omega⟩
  rw[show((k:Int)).toNat=k from rfl]
  have hk:k<t.fly.length:=by omega
  have WO:=Hx (mL 0 t.fly m.fa m.fc k w hl hk h.fly)
  have q1:¬ (k:Int)<0:=by omega
  have q2:¬ (t.fly.length:Int)<=(k:Int):=by omega
  have EL:=Hs ((t.fly.eraseIdx k).length=t.fly.length - 1) (List.length_eraseIdx_of_lt hk);clear hi h hf;go_enter Tryz.func15,Tryz.ntmps15
  go_wp2_with fail;refine WO.out.mono ?_;rintro e w1 ⟨v,rfl,own,b1⟩
  obtain⟨fa,fc,rfl⟩:∃fa fc,v=.slice fa (t.fly.eraseIdx k).length fc:=by
   obtain⟨-,h2 | ⟨g,c,cur,e,-⟩⟩:=own
   .exact⟨none,0,by rw[h2.1,h2.2]⟩
   .exact⟨_,_,e⟩
  have P:=Hx (H.out.newFly b1 own);have H1:=Hx (H.out.over b1);obtain⟨⟨-,-,-,-,-,-,-,-,-,-,d10,-⟩,hf⟩:=aY H1.out.blk;have g14:=hf 14;clear own b1 hf c10 hf14;go_wp2;go_ret;refine⟨rfl,⟨_,P.out.1.mono (λb e=>e.elim .inl λe=>.inr ⟨e.1,by simpa[World.setCell] using e.2⟩),rfl⟩,P.out.2⟩
end
theorem ac.more{Y:Nat->Prop}{w w1 w2:World}(k:ac Y w w1)(l:ac (bL Y w w1) w1 w2):ac Y w w2 :=
 ⟨l.os.trans k.os,l.tape.trans k.tape,l.output.trans k.output,Nat.le_trans k.size l.size,λb hb lB=>(l.block b (λe=>e.elim hb λq=>by omega) (Nat.lt_of_lt_of_le lB k.size)).trans (k.block b hb lB)⟩
def dS (Y:Nat->Prop)(w:World)(M:Nat)(t:Tg)(w':World):Prop:=mH (bL Y w w') w' M t/\ac Y w w'
section
variable {Y:Nat->Prop} {w w1 w':World} {M:Nat} {m m':Dm} {t t':Tg}
theorem dS.of(h:bO (bL Y w w') w' M m' t')(k:ac Y w w'):dS Y w M t' w':=⟨⟨m',h⟩,k⟩
theorem dS.from'(h:bO (bL Y w w') w' M m' t')(h0:bO Y w M m t){S:Nat->Prop}(k:ac S w w')(hS:∀b,S b->m.own M b):dS Y w M t' w':=⟨⟨m',h⟩,k.mono λb e=>h0.own b (hS b e)⟩
theorem dS.refl(h:mH Y w M t):dS Y w M t w:=⟨h.mono λ_ e=>.inl e,ac.refl _ _⟩
theorem dS.over(h:dS Y w M t w1)(b:Below w1.heap.size w1 w'):dS Y w M t w' :=
 ⟨(h.1.over b).mono λ_ e=>e.imp id λq=>⟨q.1,Nat.lt_of_lt_of_le q.2 b.size⟩,h.2.trans (ac.of_below b)⟩
theorem dS.trans(h:dS Y w M t w1)(h2:dS (bL Y w w1) w1 M t' w'):dS Y w M t' w' :=
 ⟨h2.1.mono λ_ e=>by
  have:=h.2.size;have:=h2.2.size
  rcases e with (e | e) | e
  .exact .inl e
  .exact .inr ⟨e.1,by omega⟩
  .exact .inr ⟨by omega,e.2⟩,h.2.more h2.2⟩
theorem bO.lists(h:bO Y w M m t)(hz:w.heap.size<=w'.heap.size)(kb:∀b,b<w.heap.size->¬ m.own M b->w'.heap[b]?=w.heap[b]?)(hG:w'.heap[m.G]?=w.heap[m.G]?)(hb:w'.heap[M]?=some (.cells (eT m' t') 78 (0,0)))(e:m'.G=m.G/\m'.sa=m.sa/\m'.b=m.b/\t'.g=t.g/\t'.k=t.k/\t'.b=t.b)(ow:∀b,m'.own M b->m.own M b\/(w.heap.size<=b/\b<w'.heap.size))(wt:w'.ownsRow 0 126 4 (.slice m'.wa t'.wait.length m'.wc) t'.wait.length (sW t'.wait))(fl:w'.ownsRow 0 124 6 (.slice m'.fa t'.fly.length m'.fc) t'.fly.length (cq t'.fly))(dn:w'.ownsRow 0 3 1 (.slice m'.da m'.dl.length m'.dc) m'.dl.length (m'.dl.map (Value.int .i64)))(eq:∀x,x∈m'.dl ↔ x∈t'.done)(cnt:(m'.dl.length:Int)+t'.wait.length<=t'.tag):bO (bL Y w w') w' M m' t':=by
 obtain⟨e1,e2,e3,e4,e5,e6⟩:=e
 have rd:∀b,(Y b/\¬ m.own M b)->b<w.heap.size->w'.heap[b]?=w.heap[b]?/\bL Y w w' b/\¬ m'.own M b:=λb e hb=>⟨kb b hb e.2,.inl e.1,λq=>(ow b q).elim e.2 λq=>by omega⟩
 exact⟨hb,by rw[e1,e4]; exact hG.trans h.grp,e4▸h.ok,e5▸h.len,by rw[e2,e5]; exact h.str.to hz rd,λk=>by rw[e3,e6]; exact(h.box k).to hz rd,wt,fl,dn,λb e=>(ow b e).imp (h.own b) id,eq,cnt⟩
end
theorem zY:∀(l:List Wt) (j:Nat) (h:j<l.length) (i:Nat),i<4->(sW l)[j*4+i]?=(l[j]).row[i]?
 | x :: l,0,_,i,hi=>by
  have e:sW (x :: l)=x.row ++ sW l:=rfl;rw[e,Nat.zero_mul,Nat.zero_add,List.getElem?_append_left (by simp[Wt.row]; omega)];rfl
 | x :: l,j+1,h,i,hi=>by have e:sW (x :: l)=x.row ++ sW l:=rfl;rw[e,List.getElem?_append_right (by simp[Wt.row]; omega),show(j+1)*4+i - x.row.length=j*4+i by simp[Wt.row]; omega];exact zY l j (by simpa using h) i hi
section
variable {Y:Nat->Prop} {w:World} {M:Nat} {m:Dm} {t:Tg}
theorem bO.wt_at(h:bO Y w M m t)(j:Nat)(hj:j<t.wait.length):∃b,m.wa=some ⟨b,0,none⟩/\b<w.heap.size/\w.cell? ⟨b,j*4,none⟩=some (.int .i64 (t.wait[j]).tag) /\ w.cell? ⟨b,j*4+1,none⟩=some (.bool (decide ((0:Int)∈(t.wait[j]).hv)))/\w.cell? ⟨b,j*4+2,none⟩=some (.bool (decide ((1:Int)∈(t.wait[j]).hv)))/\w.cell? ⟨b,j*4+3,none⟩=some (.bool (decide ((2:Int)∈(t.wait[j]).hv))):=by
 obtain⟨-,h2 | ⟨g,cap,cur,e,hg,hh,hc,hm,hs,ht⟩⟩:=h.wait
 .have:=h2.2; omega
 .simp only[Value.slice.injEq]at e
  have wU:∀i,i<4->w.cell? ⟨g,j*4+i,none⟩=(t.wait[j]).row[i]?:=λi hi=>by rw[<-zY t.wait j hj i hi,<-ht,List.getElem?_take_of_lt (by omega)];simp[World.cell?,hh]
  exact⟨g,e.1,(Gl hh),wU 0 (by omega),wU 1 (by omega),wU 2 (by omega),wU 3 (by omega)⟩
theorem bO.dn_at(h:bO Y w M m t)(j:Nat)(hj:j<m.dl.length):∃b,m.da=some ⟨b,0,none⟩/\b<w.heap.size/\w.cell? ⟨b,j,none⟩=some (.int .i64 m.dl[j]):=by
 obtain⟨-,h2 | ⟨g,cap,cur,e,hg,hh,hc,hm,hs,ht⟩⟩:=h.done
 .have:=h2.2; omega
 .simp only[Value.slice.injEq]at e;refine⟨g,e.1,(Gl hh),?_⟩
  have:w.cell? ⟨g,j,none⟩=(m.dl.map (Value.int .i64))[j]?:=by rw[<-ht,List.getElem?_take_of_lt (by omega)];simp[World.cell?,hh]
  rw[this];simp[hj]
theorem zq(h:bO Y w M m t)(hl:t.wait.length<=100) : Calls Tryz.prog 32 #[.pointer (some ⟨M,0,none⟩)] w λe w'=>∃v,e=.returned v/\bh w.heap.size w' v (t.wait.map (·.tag))/\Below w.heap.size w w':=by
 obtain⟨i0,hi,Ij,Ii,Im⟩:=info_parts Tryz.infoInt;have H:=Hx h
 have HL:=(Gl h.blk)
 clear h;go_enter Tryz.func32,Tryz.ntmps32
 go_wp2;go_loopw [3,4] (λv i wr=>∃k:Nat,k<=t.wait.length/\i=.int .i64 k/\bh w.heap.size wr v ((t.wait.take k).map (·.tag))/\Below w.heap.size w wr) (λ_ i _=>t.wait.length - (RowKit.intOf i).toNat)
 case atStart=>exact⟨0,by omega,rfl,⟨rfl,.inl ⟨rfl,rfl⟩⟩,Below.refl _ _⟩
 case round =>
  obtain⟨k,hk,rfl,ec,hb⟩:=hrel;have Ie:=Hx ec;have Iy:=Hx ec.blk;have HB:=Hx hb;have hsz:=hb.size;have HR:=Hx (H.out.over hb);obtain⟨⟨-,-,-,-,-,-,-,-,-,c9,-⟩,-⟩:=aY HR.out.blk
  have htl:((t.wait.take k).map (·.tag)).length<=100:=by rw[List.length_map,List.length_take]; omega
  clear ec;by_cases lB:k<t.wait.length
  .obtain⟨b,hwa,LY,d0,-⟩:=HR.out.wt_at k lB;rw[hwa]at c9;have HE:=Hs ((t.wait.take (k+1)).map (·.tag)=(t.wait.take k).map (·.tag) ++ [(t.wait[k]).tag]) (by rw[List.take_succ_eq_append_getElem lB,List.map_append]; rfl);obtain⟨x,hx⟩:=Nm ((t.wait[k]).tag);obtain⟨L,hL⟩:=Nm ((t.wait.take k).map (·.tag));rw[hx]at d0 HE;rw[hL]at Ie HE htl;clear hwa LY hx hL;go_wp2_with (at_builtin; refine wpList_append_own _ rfl _ _ 71 rfl w.heap.size 3 i0 (.int .i64 0) 1 8 Tryz.underlying71 hi Ij Ii Im rfl (by decide) _ _ _ rfl (Ie.out.alloc _) ⟨wr.heap.size,0,none⟩ 1 1 [.int .i64 x] rfl rfl ?c1 ?c2 ?c3 ?c4 ?c5 ?_)
   case c1 =>
    intro j u hj
    match j,hj with
    | 0,hj=>simp at hj; subst hj; simp[Addr.add]
   case c2=>intro u hu; simp at hu; subst hu; rfl
   case c3=>unfold maxLen; omega
   case c4=>omega
   case c5=>simp; omega
   intro v' w1 jZ Il _;have wC:=(HB.out.alloc (by omega) _).grown Il (by simp; omega) Iy.out;have M9:=Hx jZ;clear jZ Il;go_wp2;go_roundw
   case rel=>exact⟨k+1,by omega,by go_num,by rw[HE.out]; simpa[bh] using M9.out,wC⟩
   case measure=>simp[RowKit.intOf]; omega
  .have hT:t.wait.take k=t.wait:=List.take_of_length_le (by omega);rw[hT]at Ie;clear hT;go_wp2;go_ret;exact⟨_,rfl,Ie.out,HB.out⟩
theorem zA(tag:Int)(h:bO Y w M m t) : Calls Tryz.prog 34 #[.pointer (some ⟨M,0,none⟩),.int .i64 tag] w λe w'=>e=.returned (.bool (decide (tag∈t.done)))/\w'=w:=by
 have H:=Hx h;obtain⟨⟨-,-,-,-,-,-,-,-,-,-,-,c11⟩,-⟩:=aY h.blk;have DE:=Hs (decide (tag∈t.done)=decide (tag∈m.dl)) (by simp only[h.eq tag]);rw[DE.out]
 have Jp:=Hs (m.dl.length<=maxLen) (by
  obtain⟨-,h2 | ⟨g,cap,cur,e,hg,hh,hc,hm,hs,ht⟩⟩:=h.done
  .rw[h2.2]; omega
  .omega)
 clear h;go_enter Tryz.func34,Tryz.ntmps34
 go_wp2;go_loop [5] (λi=>∃k:Nat,k<=m.dl.length/\i=.int .i64 k/\tag ∉ m.dl.take k) (λi=>m.dl.length - (RowKit.intOf i).toNat)
 case atStart=>exact⟨0,by omega,rfl,by simp⟩
 case round =>
  obtain⟨k,hk,rfl,NK⟩:=hrel;have NO:=Hx NK;have hml:=Jp.out;unfold maxLen at hml;clear NK;by_cases lB:k<m.dl.length
  .obtain⟨b,hda,LY,d0⟩:=H.out.dn_at k lB;have c:=c11;rw[hda]at c;clear c11 hda
   rcases (by omega:m.dl[k]=tag\/m.dl[k]≠tag) with he | he
   .have q:(m.dl[k] == tag)=true:=by simp[he]
    have HE:=Hs (decide (tag∈m.dl)=true) (decide_eq_true (he▸List.getElem_mem lB));clear he;go_wp2;go_ret;exact⟨by rw[HE.out]; rfl,rfl⟩
   .have q:(m.dl[k] == tag)=false:=by simp[he]
    have HE:=Hs (tag ∉ m.dl.take (k+1)) (by
     rw[List.take_succ_eq_append_getElem lB];intro hm
     rcases List.mem_append.1 hm with e | e
     .exact NO.out e
     .rw[List.mem_singleton]at e; exact he e.symm)
    clear he;go_wp2;go_round
    case rel=>exact⟨k+1,by omega,by go_num,HE.out⟩
    case measure=>simp[RowKit.intOf]; omega
  .have HE:=Hs (decide (tag∈m.dl)=false) (decide_eq_false (by have:=NO.out; rw[List.take_of_length_le (by omega)]at this; exact this));go_wp2;go_ret;exact⟨by rw[HE.out]; rfl,rfl⟩
end
theorem xK:∀(l:List Ms) (j:Nat) (h:j<l.length) (i:Nat),i<6->(cq l)[j*6+i]?=(l[j]).row[i]?
 | x :: l,0,_,i,hi=>by
  have e:cq (x :: l)=x.row ++ cq l:=rfl;rw[e,Nat.zero_mul,Nat.zero_add,List.getElem?_append_left (by simp[Ms.row]; omega)];rfl
 | x :: l,j+1,h,i,hi=>by have e:cq (x :: l)=x.row ++ cq l:=rfl;rw[e,List.getElem?_append_right (by simp[Ms.row]; omega),show(j+1)*6+i - x.row.length=j*6+i by simp[Ms.row]; omega];exact xK l j (by simpa using h) i hi
section
variable {Y:Nat->Prop} {w:World} {M:Nat} {m:Dm} {t:Tg}
theorem bO.fl_at(h:bO Y w M m t)(j:Nat)(hj:j<t.fly.length):∃b,m.fa=some ⟨b,0,none⟩/\b<w.heap.size/\∀i,i<6->w.cell? ⟨b,j*6+i,none⟩=(t.fly[j]).row[i]?:=by
 obtain⟨-,h2 | ⟨g,cap,cur,e,hg,hh,hc,hm,hs,ht⟩⟩:=h.fly
 .have:=h2.2; omega
 .simp only[Value.slice.injEq]at e;refine⟨g,e.1,(Gl hh),λi hi=>?_⟩;rw[<-xK t.fly j hj i hi,<-ht,List.getElem?_take_of_lt (by omega)];simp[World.cell?,hh]
def zd (t:Tg)(a:Int)(x:Ms):Bool:=decide (x.at'=a) && decide (x.c.e=t.k.ep)
theorem wJ(a:Int)(h:bO Y w M m t)(hl:t.fly.length<=1000) : Calls Tryz.prog 59 #[.pointer (some ⟨M,0,none⟩),.int .i64 a] w λe w'=>e=.returned (.bool (t.busy a))/\Below w.heap.size w w':=by
 have H:=Hx h;have BU:=Hs (t.busy a=t.fly.any (zd t a)) rfl;clear h;go_enter Tryz.func59,Tryz.ntmps59
 go_wp2;go_loopw [5] (λi wr=>∃k:Nat,k<=t.fly.length/\i=.int .i64 k/\(∀j (hj:j<t.fly.length),j<k->zd t a t.fly[j]=false)/\Below w.heap.size w wr) (λi _=>t.fly.length - (RowKit.intOf i).toNat)
 case atStart=>exact⟨0,by omega,rfl,λj hj q=>by omega,Below.refl _ _⟩
 case round =>
  obtain⟨k,hk,rfl,NK,hb⟩:=hrel;have NO:=Hx NK;have HR:=Hx (H.out.over hb);obtain⟨⟨-,-,-,-,-,c5,-,-,-,-,c10,-⟩,-⟩:=aY HR.out.blk;clear NK;by_cases lB:k<t.fly.length
  .obtain⟨b,JK,LY,hc⟩:=HR.out.fl_at k lB;have d1:=hc 1 (by omega);have d2:=hc 2 (by omega);rw[JK]at c10;have HX:=Hs (zd t a t.fly[k]=(decide ((t.fly[k]).at'=a) && decide ((t.fly[k]).c.e=t.k.ep))) rfl;obtain⟨x,hx⟩:=Nm (t.fly[k]);rw[hx]at d1 d2 HX;replace d1:wr.cell? ⟨b,k*6+1,none⟩=some (.int .i64 x.at'):=d1;replace d2:wr.cell? ⟨b,k*6+2,none⟩=some (.int .i64 x.c.e):=d2
   have HK:=Hs (zd t a x=false->∀j (hj:j<t.fly.length),j<k+1->zd t a t.fly[j]=false) (λe j hj q=>by
    rcases (by omega:j<k\/j=k) with q | q
    .exact NO.out j hj q
    .subst q; rw[hx]; exact e)
   have HT:=Hs (zd t a x=true->t.busy a=true) (λe=>by rw[BU.out,List.any_eq_true]; exact⟨x,hx▸List.getElem_mem lB,e⟩);clear JK hc LY hx
   rcases (by omega:x.at'=a\/x.at'≠a) with e1 | e1
   .have q1:(x.at' == a)=true:=by simp[e1]
    rcases (by omega:x.c.e=t.k.ep\/x.c.e≠t.k.ep) with e2 | e2
    .have q2:(x.c.e == t.k.ep)=true:=by simp[e2]
     have R:=Hx (HT.out (by rw[HX.out]; simp[e1,e2]));clear e1 e2;go_wp2;go_quiet (fail)
     go_wp2;go_ret;exact⟨by rw[R.out]; rfl,Go.below_drewN hb _⟩
    .have q2:(x.c.e == t.k.ep)=false:=by simp[e2]
     have R:=Hx (HK.out (by rw[HX.out]; simp[e2]));clear e1 e2;go_wp2;go_quiet (fail)
     go_wp2;go_roundw
     case rel=>exact⟨k+1,by omega,by go_num,R.out,Go.below_drewN hb _⟩
     case measure=>simp[RowKit.intOf]; omega
   .have q1:(x.at' == a)=false:=by simp[e1]
    have R:=Hx (HK.out (by rw[HX.out]; simp[e1]));clear e1;go_wp2;go_quiet (fail)
    go_wp2;go_roundw
    case rel=>exact⟨k+1,by omega,by go_num,R.out,Go.below_drewN hb _⟩
    case measure=>simp[RowKit.intOf]; omega
  .have R:=Hs (t.busy a=false) (by
    rw[BU.out,List.any_eq_false];intro x hx;obtain⟨j,hj,rfl⟩:=List.getElem_of_mem hx;rw[NO.out j hj (by omega)]
    decide)
   go_wp2;go_ret;exact⟨by rw[R.out]; rfl,hb⟩
end
