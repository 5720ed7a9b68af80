import Derived.Test.YtjalgpcigojpkaaGreatDoorQ43
set_option maxRecDepth 99999
set_option maxHeartbeats 99999999
namespace Go.Proofs.YtjalgpcigojpkaaGreatDoor
section
open Go.RowKit Go.Sort
structure JT (w0:World) (D T M:Nat) (t:Tg) (S:aw->Prop) (B:Int) (Y:Nat->Prop) (w:World):Prop where
 tg:bR w0 10 D T t Y w
 tj:TJ 10 S B t
 dg:mH Y w M t
 wi:WI t
theorem JT.over{w0 w w':World}{D T M:Nat}{t:Tg}{S:aw->Prop}{B:Int}{Y:Nat->Prop}(h:JT w0 D T M t S B Y w)(b:Below w.heap.size w w'):JT w0 D T M t S B Y w':=⟨h.tg.over b,h.tj,h.dg.over b,h.wi⟩
theorem JT.of{w0 w2 w3:World}{D T M:Nat}{t:Tg}{S:aw->Prop}{B:Int}{Y Y1:Nat->Prop}(h:bR w0 10 D T t Y1 w2)(hY:∀b,Y b->Y1 b)(tj:TJ 10 S B t)(dp:dS Y w2 M t w3)(wi:WI t):JT w0 D T M t S B (bL Y w2 w3) w3 :=
 ⟨(h.both (dp.2.mono hY)).less λb e=>e.imp (hY b) id,tj,dp.1,wi⟩
def nn (w0:World)(D:Nat)(B:Int)(p q ok:Value)(wx:World):Prop:=∃T M t S Y,p=.pointer (some ⟨T,0,none⟩)/\q=.pointer (some ⟨M,0,none⟩)/\ok=.bool true/\JT w0 D T M t S B Y wx
theorem lZ{w:World}{V:Nat}{x:Ac}{T:TypeId}(h:w.heap[V]?=some (.cells x.cells.toArray T (0,0))) : (w.cell? ⟨V,0,none⟩=some (.string x.kind)/\w.cell? ⟨V,1,none⟩=some (.int .i64 x.a)/\w.cell? ⟨V,2,none⟩=some (.int .i64 x.b))/\w.cell? ⟨V,10,none⟩=some (.int .i64 x.cm.op)/\w.cell? ⟨V,11,none⟩=some (.int .i64 x.cm.who)/\w.cell? ⟨V,12,none⟩=some (.int .i64 x.cm.key)/\w.cell? ⟨V,13,none⟩=some (.int .i64 x.cm.new) /\ w.cell? ⟨V,14,none⟩=some (.int .i64 x.cm.typ)/\w.cell? ⟨V,15,none⟩=some (.int .i64 x.cm.at')/\w.cell? ⟨V,16,none⟩=some (.bool x.cm.stays)/\w.cell? ⟨V,17,none⟩=some (.string x.cm.data)/\w.cell? ⟨V,18,none⟩=some (.string x.cm.want):=by
 have:=ru (o:=0) (AK h);simp only[Nat.zero_add]at this;exact⟨⟨this.1.1,this.1.2.1,this.1.2.2.1⟩,this.2.2⟩
theorem tL(d:Dk):(Tg.start ⟨d,0,1,bc⟩ Gp.start).isReady=true:=by show decide (2<=((Gp.start.fence 1).mem 1).length)=true;decide +kernel
theorem targetsays_walk(l:List Ac)(a:Option Addr)(cap:Nat)(w:World)(hl:l.length<=maxLen)(hr:mI w a l)(tt:Tabs w) : Calls Tryz.prog 3 #[.slice a l.length cap] w λe w'=>e=.returned (.bool true)/\Below w.heap.size w w':=by
 have TT:=Hx tt;have HR:=Hx hr;have TG:=Hx (targets_any w tt);have LA:=Hx (λw' (b:Below w.heap.size w w')=>pY l a cap 80 w' hl (hr.below b));unfold maxLen at hl;clear hr tt;go_enter Tryz.func3,Tryz.ntmps3
 go_wp2_with fail;refine TG.out.mono ?_;rintro e w1 ⟨rfl,b1⟩;have B1:=Hx b1;have LA1:=Hx (LA.out w1 b1);clear b1 TG LA;go_wp2_with fail;refine LA1.out.mono ?_;rintro e w2 ⟨lb,rfl,LY,b2⟩;have B2:=Hs (Below w.heap.size w w2) (B1.out.trans (b2.mono B1.out.size));cases lb
 .clear LY b2;go_wp2;go_ret;exact⟨rfl,B2.out⟩
 have HL:=Hx (LY rfl).1;have OP:=Hx (oZ w2 (TT.out.on B2.out));clear LY b2 B1 LA1;go_wp2_with fail;refine OP.out.mono ?_;rintro e w3 ⟨D,T,d,rfl,h3,j3⟩;have H3:=Hx h3;have J3:=Hx j3;clear h3 j3 OP;go_wp2_with fail;refine(yt _).mono ?_;rintro e w4 ⟨G,rfl,lG,hG,b4⟩
 obtain⟨Y0,hY0⟩:∃Y0:Nat->Prop,Y0=bL (λ_=>False) w3 w4:=⟨_,rfl⟩
 have H4:=Hs (bR w2 10 D T (Ah d) Y0 w4) (hY0▸(H3.out.more b4));have NT:=Hx (mY (Y:=Y0) ⟨d,0,1,bc⟩ Gp.start G none 0 hG lr.ok (hY0▸.inr ⟨lG,(Gl hG)⟩) ⟨by show(0:Int)<=1; omega,by show(1:Int)<=1000000; omega⟩ (by show 0<=maxLen; omega) (λi hi=>absurd hi (Nat.not_lt_zero i)));have YG:=Hs (Y0 G) (hY0▸.inr ⟨lG,(Gl hG)⟩);clear lG hG b4 hY0 H3;go_wp2_with fail;refine NT.out.mono ?_;rintro e w5 (⟨r,-⟩ | ⟨-,r,-⟩ | ⟨-,-,M,rfl,-,⟨m5,h5⟩,k5⟩)
 .exact absurd ((tL d).symm.trans r) (by decide)
 .exact absurd (show(1:Int)=1000000 from r) (by decide)
 have J5:=Hs (JT w2 D T M (Ah d) (·=aw.zero) 3 (bL Y0 w4 w5) w5) (JT.of H4.out (λ_ e=>e) J3.out (dS.of (m':=m5) (by
  have:=h5.setK ⟨d,3,2,bc⟩ rfl rfl;unfold Tg.nexted at this;have hf:(Tg.start ⟨d,0,1,bc⟩ Gp.start).g.fence (Tg.start ⟨d,0,1,bc⟩ Gp.start).k.ep=Gp.start:=lr.fence;rw[hf]at this
  exact this) (k5.mono λb e=>e▸YG.out)) (WI.nil rfl))
 clear h5 k5 H4 YG NT J3;go_wp2;go_loopw [5,6,8] (λp q i wr=>∃(k T M:Nat) (t:Tg) (S:aw->Prop) (Y:Nat->Prop),k<=l.length/\p=.pointer (some ⟨T,0,none⟩)/\q=.pointer (some ⟨M,0,none⟩)/\i=.int .i64 k/\JT w2 D T M t S (3+2*(k:Int)) Y wr) (λ_ _ i _=>l.length - (RowKit.intOf i).toNat)
 case atStart=>exact⟨0,T,M,Ah d,_,_,by omega,rfl,rfl,rfl,J5.out⟩
 case round =>
  clear J5;obtain⟨k,T,M,t,S,Y,hk,rfl,rfl,rfl,hj⟩:=hrel;have HJ:=Hx hj;have h80:=HL.out;by_cases lB:k<l.length
  .obtain⟨okx,b,o,rfl,hb,hrange⟩:=HR.out k lB;have bw:Below w.heap.size w wr:=B2.out.trans (hj.tg.below.mono B2.out.size);have hrg:wr.rangeAt b (o+k*19) l[k].cells:=λj v hv=>(bw.cell (p:=⟨b,_,none⟩) hb).trans (hrange j v hv);have hci:=okx.ci;unfold maxLen at hci;obtain⟨X,hX⟩:=Nm (l[k]);rw[hX]at hrg hci;have HRG:=Hx hrg;have HCI:=Hx hci;clear hrange hX hrg okx hci bw hj;go_upto_region 12 with (first|((with_reducible refine lI rfl 41 _ rfl ?_); refine⟨b,o+k*19,X.cells.toArray,_,rfl,HRG.out,sU.1,rfl,sU.2,?_⟩)|((with_reducible refine cu rfl 41 _ _ rfl ?_); refine⟨wr.heap.size,_,X.cells.toArray,_,rfl,rfl,heap_alloc_new wr _,sU.2,rfl,EK X,?_⟩));obtain⟨w4,Iq⟩:=Nn ((wr.alloc (.cells Ge 41)).setRow wr.heap.size X.cells.toArray);have MI:=Iq;unfold Ge at Iq;rw[<-Iq];clear Iq;have BR:=nL wr Ge X.cells.toArray 41;rw[<-MI]at BR;have HV:=Hs (w4.heap[wr.heap.size]?=some (.cells X.cells.toArray 41 (0,0))) (MI▸setRow_heap _ _ _ _ _ _ (heap_alloc_new wr _));obtain⟨V,hV⟩:=Nm wr.heap.size
   obtain⟨Y4,hY4⟩:∃Y4:Nat->Prop,Y4=bL Y wr w4:=⟨_,rfl⟩
   have H4:=Hs (bR w2 10 D T t Y4 w4) (hY4▸HJ.out.tg.more BR);have D4:=Hs (mH Y w4 M t) (HJ.out.dg.over BR)
   have YY:=Hs ((∀b,Y b->Y4 b)/\Y4 V/\¬ Y V) (by
    rw[hY4]
    exact⟨λb e=>.inl e,.inr ⟨Nat.le_of_eq hV,hV▸(Gl HV.out)⟩,λe=>by have:=HJ.out.tg.lt_y V e; omega⟩)
   have TJ4:=Hx HJ.out.tj;have WI4:=Hx HJ.out.wi;have TI4:=Hx HJ.out.tj.ti
   have hB:3+2*(k:Int)+2<1000000000000000:=by omega
   have PLAY:=Hs (∃S',TJ 10 S' (3+2*((k+1:Nat):Int)) (t.play 10 X)) (by
    obtain⟨S',-,hj'⟩:=TJ4.out.play hB X
    exact⟨S',hj'.mono (by omega)⟩)
   have PL:=Hx (show t.play 10 X=if X.kind=Az then(t.ask 10 X.cm).1 else if X.kind=jf then(t.deliver X.a (decide (X.b=1))).1 else if X.kind=tO then(t.lose X.a).1
    else if X.kind=Aw\/X.kind=oG then(t.up X.a (decide (X.kind=Aw))).1 else if X.kind=qE then(t.sync X.a).1 else if X.kind=oD then(t.power 10).1 else t.anew 10 from rfl)
   have END:=Hs (∀w5 w6 u,t.play 10 X=u->bR w2 10 D T u Y4 w5->dS Y w5 M u w6->WI u->nn w2 D (3+2*((k+1:Nat):Int)) (.pointer (some ⟨T,0,none⟩)) (.pointer (some ⟨M,0,none⟩)) (.bool true) w6) (λw5 w6 u e h5 p6 wi=>by
    obtain⟨S',hj'⟩:=PLAY.out;rw[e]at hj'
    exact⟨T,M,u,S',_,rfl,rfl,rfl,JT.of h5 YY.out.1 hj' p6 wi⟩)
   have SwO:=Hs (∀w6 w7 p q ok,nn w2 D (3+2*((k+1:Nat):Int)) p q ok w6->Below w6.heap.size w6 w7->nn w2 D (3+2*((k+1:Nat):Int)) p q ok w7) (λw6 w7 p q ok h b=>by
    obtain⟨T',M',u,S',Y',e1,e2,e3,j⟩:=h
    exact⟨T',M',u,S',Y',e1,e2,e3,j.over b⟩)
   rw[hV]at HV ⊢;clear MI BR hV hY4 HRG HJ;obtain⟨⟨v0,v1,v2⟩,d0,d1,d2,d3,d4,d5,d6,d7,d8⟩:=lZ HV.out
   go_upto_block 2 with fail
   go_cut [5,6,10] (λp q ok wx=>nn w2 D (3+2*((k+1:Nat):Int)) p q ok wx)
   case first=>as_aux_lemma =>
    have NX:=Hs (∀w5,Same Y4 w4 w5->w5.heap[V]?=some (.cells X.cells.toArray 41 (0,0))/\mH Y w5 M t) (λw5 s=>⟨(s V YY.out.2.1).trans HV.out,D4.out.same' λb e=>s b (YY.out.1 b e)⟩);by_cases k1:X.kind=Az
    .as_aux_lemma =>
      have q1:(X.kind.toList == [97,115,107])=true:=by rw[BF,decide_eq_true k1]
      have E:=Hx (PL.out.trans (if_pos k1));have TA:=Hx (od w2 w4 10 D T t Y4 S _ X.cm H4.out TJ4.out hB HCI.out (TT.out.on B2.out));have DA:=Hx (λw5 (h:mH Y w5 M t)=>FT (n:=10) X.cm h TI4.out hB HCI.out);have NN:=Hx (FY (n:=10) TI4.out hB X.cm);have WA:=Hx (WI4.out.ask (n:=10) TI4.out hB X.cm);obtain⟨r,hr⟩:=Nm (t.ask 10 X.cm);rw[hr]at TA NN WA E;have DA2:=Hs (∀w5,mH Y w5 M t->Calls Tryz.prog 10 #[.pointer (some ⟨M,0,none⟩),.agg #[.int .i64 X.cm.op,.int .i64 X.cm.who,.int .i64 X.cm.key,.int .i64 X.cm.new,.int .i64 X.cm.typ,.int .i64 X.cm.at',.bool X.cm.stays,.string X.cm.data,.string X.cm.want]] w5 (λe w'=>e=.returned (.tuple #[.string r.2.data,.int .i64 r.2.tag,.int .i64 r.2.what,.int .i64 r.2.err])/\dS Y w5 M r.1 w')) (λw5 h=>hr▸DA.out w5 h);clear k1 hr DA PL;go_wp2_with fail;refine TA.out.mono ?_;rintro e w5 ⟨rfl,h5,s5⟩;have H5:=Hx h5;have N5:=Hx (NX.out w5 s5);clear h5 s5 TA v0 v1 v2 d0 d1 d2 d3 d4 d5 d6 d7 d8;obtain⟨-,d0,d1,d2,d3,d4,d5,d6,d7,d8⟩:=lZ N5.out.1;have DA3:=Hx (DA2.out w5 N5.out.2)
      have q2:(r.2.data.toList == r.2.data.toList)=true:=by simp
      have q3:(r.2.tag == r.2.tag)=true:=by simp
      have q4:(r.2.what == r.2.what)=true:=by simp
      go_wp2_with fail;refine DA3.out.mono ?_;rintro e w6 ⟨rfl,p6⟩;have FIN:=Hx (END.out w5 w6 _ E.out H5.out p6 WA.out);have SA:=Hx (fL r.2.err w6 NN.out);clear p6 d0 d1 d2 d3 d4 d5 d6 d7 d8;go_wp2_with fail;refine SA.out.mono ?_;rintro e w7 ⟨rfl,b7⟩;have FIN2:=Hx (SwO.out _ _ _ _ _ FIN.out b7);clear b7;go_wp2;go_meet;exact FIN2.out
    have q1:(X.kind.toList == [97,115,107])=false:=by rw[BF,decide_eq_false k1]
    clear d0 d1 d2 d3 d4 d5 d6 d7 d8;have PL2:=Hx (PL.out.trans (if_neg k1));clear PL;by_cases k2:X.kind=jf
    .as_aux_lemma =>
      have q2:(X.kind.toList == [100,101,108,105,118,101,114])=true:=by rw[pi,decide_eq_true k2]
      have E:=Hx (PL2.out.trans (if_pos k2));obtain⟨Q,hQ⟩:=Nm (X.b == 1);have HQ:=Hs (decide (X.b=1)=Q) (by rw[<-hQ]; by_cases e:X.b=1<;>simp[e]);rw[HQ.out]at E;have TA:=Hx (iD w2 w4 10 D T t Y4 X.a Q H4.out TJ4.out.ti.tgd);have DA:=Hx (λw5 (h:mH Y w5 M t)=>wL X.a Q h TI4.out (by omega) WI4.out);have NN:=Hx (wK t X.a Q);have WA:=Hx (WI4.out.deliver TI4.out X.a Q);obtain⟨r,hr⟩:=Nm (t.deliver X.a Q);rw[hr]at TA DA NN WA E;obtain⟨rt,rb,re⟩:=r;dsimp only at TA DA NN WA E;clear k1 k2 hr;go_wp2_with fail;refine TA.out.mono ?_;rintro e w5 ⟨rfl,h5,s5⟩;have H5:=Hx h5;have N5:=Hx (NX.out w5 s5);clear h5 s5 TA v0 v1 v2;obtain⟨⟨-,v1,v2⟩,-⟩:=lZ N5.out.1;have DA3:=Hx (DA.out w5 N5.out.2)
      have q3:(rb == rb)=true:=by simp
      go_wp2_with fail;refine DA3.out.mono ?_;rintro e w6 ⟨rfl,p6⟩;have FIN:=Hx (END.out w5 w6 _ E.out H5.out p6 WA.out);have SA:=Hx (fL re w6 NN.out);clear p6 v1 v2;go_wp2_with fail;refine SA.out.mono ?_;rintro e w7 ⟨rfl,b7⟩;have FIN2:=Hx (SwO.out _ _ _ _ _ FIN.out b7);clear b7;go_wp2;go_meet;exact FIN2.out
    have q2:(X.kind.toList == [100,101,108,105,118,101,114])=false:=by rw[pi,decide_eq_false k2]
    have PL3:=Hx (PL2.out.trans (if_neg k2));clear PL2
    have ST1:=Hs (∀w5,Same Y4 w4.drew w5->(w5.cell? ⟨V,0,none⟩=some (.string X.kind)/\w5.cell? ⟨V,1,none⟩=some (.int .i64 X.a))) (λw5 s=>by
     obtain⟨⟨x0,x1,-⟩,-⟩:=lZ (NX.out w5 s).1
     exact⟨x0,x1⟩)
    have ST0:=Hx (ST1.out w4.drew (λ_ _=>rfl))
    have ST2:=Hs (∀w5 w6 u,Same Y4 w4.drew w5->dS Y w5 M u w6->(w6.cell? ⟨V,0,none⟩=some (.string X.kind)/\w6.cell? ⟨V,1,none⟩=some (.int .i64 X.a))) (λw5 w6 u s p=>by
     have e:=(NX.out w5 s).1;obtain⟨⟨x0,x1,-⟩,-⟩:=lZ ((p.2.block V YY.out.2.2 (Gl e)).trans e)
     exact⟨x0,x1⟩)
    have ST3:=Hs (∀w6 w7:World,(w6.cell? ⟨V,0,none⟩=some (.string X.kind)/\w6.cell? ⟨V,1,none⟩=some (.int .i64 X.a))->Below w6.heap.size w6 w7->(w7.cell? ⟨V,0,none⟩=some (.string X.kind)/\w7.cell? ⟨V,1,none⟩=some (.int .i64 X.a))) (λw6 w7 s b=>⟨(b.cell (p:=⟨V,0,none⟩) (cell_lt s.1)).trans s.1,(b.cell (p:=⟨V,1,none⟩) (cell_lt s.1)).trans s.2⟩);by_cases k3:X.kind=tO
    .as_aux_lemma =>
      have q3:(X.kind.toList == [108,111,115,101])=true:=by rw[xB,decide_eq_true k3]
      have E:=Hx (PL3.out.trans (if_pos k3));clear k1 k2 k3 PL3;have TA:=Hs (Calls Tryz.prog 14 #[.pointer (some ⟨T,0,none⟩),.int .i64 X.a] w4.drew (λe w'=>e=.returned (bg (t.lose X.a).2)/\bR w2 10 D T (t.lose X.a).1 Y4 w'/\Same Y4 w4.drew w')) ((yg w2 w4.drew 10 D T t Y4 X.a (H4.out.over (Below.refl _ _).drew) (by have:=TI4.out.fl; omega)).mono λ_ _ h=>⟨h.1,h.2.1,h.2.2.1⟩);have DA:=Hs (∀w5,Same Y4 w4.drew w5->Calls Tryz.prog 15 #[.pointer (some ⟨M,0,none⟩),.int .i64 X.a] w5 (λe w'=>e=.returned (.int .i64 (t.lose X.a).2)/\dS Y w5 M (t.lose X.a).1 w')) (λw5 s=>Ez X.a (NX.out w5 s).2 (by have:=TI4.out.fl; omega));have NN:=Hx (Ec t X.a);have WA:=Hx (WI4.out.lose X.a);obtain⟨rt,hr⟩:=Nm ((t.lose X.a).1);obtain⟨re,he⟩:=Nm ((t.lose X.a).2);rw[hr]at TA DA WA E;rw[he]at TA DA NN;have SA:=Hx (λw=>fL re w NN.out);clear hr he;go_wp2
      go_region_held3 (λw'=>w'.cell? ⟨V,0,none⟩=some (.string X.kind)/\w'.cell? ⟨V,1,none⟩=some (.int .i64 X.a))
       (first|with_reducible assumption | with_reducible exact ST0.out | with_reducible exact ST1.out _ (by with_reducible assumption) | with_reducible exact ST2.out _ _ _ (by with_reducible assumption) (by with_reducible assumption) | with_reducible exact ST3.out _ _ (by with_reducible assumption) (by with_reducible assumption))
       (first
        | ((with_reducible refine TA.out.mono ?_); rintro e w5 ⟨rfl,h5,s5⟩)
        | ((with_reducible refine(DA.out _ (by with_reducible assumption)).mono ?_); rintro e w6 ⟨rfl,p6⟩)
        | ((with_reducible refine(SA.out _).mono ?_); rintro e w7 ⟨rfl,b7⟩))
      rename_i dT;clear dT;have FIN2:=Hx (SwO.out _ _ _ _ _ (END.out w5 w6 _ E.out h5 p6 WA.out) b7);clear h5 s5 p6 b7;go_wp2;go_meet;exact FIN2.out
    have q3:(X.kind.toList == [108,111,115,101])=false:=by rw[xB,decide_eq_false k3]
    have PL4:=Hx (PL3.out.trans (if_neg k3));clear PL3;by_cases k4:X.kind=Aw
    .as_aux_lemma =>
      have q4:(X.kind.toList == [117,112])=true:=by rw[EU,decide_eq_true k4]
      have E:=Hs (t.play 10 X=(t.up X.a true).1) (by rw[PL4.out,if_pos (.inl k4),decide_eq_true k4]);clear k1 k2 k3 k4 PL4;have TA:=Hs (Calls Tryz.prog 16 #[.pointer (some ⟨T,0,none⟩),.int .i64 X.a,.bool true] w4.drew (λe w'=>e=.returned (bg (t.up X.a true).2)/\bR w2 10 D T (t.up X.a true).1 Y4 w'/\Same Y4 w4.drew w')) ((Aa w2 w4.drew 10 D T t Y4 X.a true (H4.out.over (Below.refl _ _).drew)).mono λ_ _ h=>⟨h.1,h.2.1,h.2.2.1⟩);have DA:=Hs (∀w5,Same Y4 w4.drew w5->Calls Tryz.prog 17 #[.pointer (some ⟨M,0,none⟩),.int .i64 X.a,.bool true] w5 (λe w'=>e=.returned (.int .i64 (t.up X.a true).2)/\dS Y w5 M (t.up X.a true).1 w')) (λw5 s=>E5 X.a true (NX.out w5 s).2);have NN:=Hx (EN t X.a true);have WA:=Hx (WI4.out.up X.a true);obtain⟨rt,hr⟩:=Nm ((t.up X.a true).1);obtain⟨re,he⟩:=Nm ((t.up X.a true).2);rw[hr]at TA DA WA E;rw[he]at TA DA NN;have SA:=Hx (λw=>fL re w NN.out);clear hr he;go_wp2
      go_region_held3 (λw'=>w'.cell? ⟨V,0,none⟩=some (.string X.kind)/\w'.cell? ⟨V,1,none⟩=some (.int .i64 X.a))
       (first|with_reducible assumption | with_reducible exact ST0.out | with_reducible exact ST1.out _ (by with_reducible assumption) | with_reducible exact ST2.out _ _ _ (by with_reducible assumption) (by with_reducible assumption) | with_reducible exact ST3.out _ _ (by with_reducible assumption) (by with_reducible assumption))
       (first
        | ((with_reducible refine TA.out.mono ?_); rintro e w5 ⟨rfl,h5,s5⟩)
        | ((with_reducible refine(DA.out _ (by with_reducible assumption)).mono ?_); rintro e w6 ⟨rfl,p6⟩)
        | ((with_reducible refine(SA.out _).mono ?_); rintro e w7 ⟨rfl,b7⟩))
      rename_i dT;clear dT;have FIN2:=Hx (SwO.out _ _ _ _ _ (END.out w5 w6 _ E.out h5 p6 WA.out) b7);clear h5 s5 p6 b7;go_wp2;go_meet;exact FIN2.out
    have q4:(X.kind.toList == [117,112])=false:=by rw[EU,decide_eq_false k4]
    by_cases k5:X.kind=oG
    .as_aux_lemma =>
      have q5:(X.kind.toList == [100,111,119,110])=true:=by rw[xC,decide_eq_true k5]
      have E:=Hs (t.play 10 X=(t.up X.a false).1) (by rw[PL4.out,if_pos (.inr k5),decide_eq_false k4]);clear k1 k2 k3 k4 k5 PL4;have TA:=Hs (Calls Tryz.prog 16 #[.pointer (some ⟨T,0,none⟩),.int .i64 X.a,.bool false] w4.drew (λe w'=>e=.returned (bg (t.up X.a false).2)/\bR w2 10 D T (t.up X.a false).1 Y4 w'/\Same Y4 w4.drew w')) ((Aa w2 w4.drew 10 D T t Y4 X.a false (H4.out.over (Below.refl _ _).drew)).mono λ_ _ h=>⟨h.1,h.2.1,h.2.2.1⟩);have DA:=Hs (∀w5,Same Y4 w4.drew w5->Calls Tryz.prog 17 #[.pointer (some ⟨M,0,none⟩),.int .i64 X.a,.bool false] w5 (λe w'=>e=.returned (.int .i64 (t.up X.a false).2)/\dS Y w5 M (t.up X.a false).1 w')) (λw5 s=>E5 X.a false (NX.out w5 s).2);have NN:=Hx (EN t X.a false);have WA:=Hx (WI4.out.up X.a false);obtain⟨rt,hr⟩:=Nm ((t.up X.a false).1);obtain⟨re,he⟩:=Nm ((t.up X.a false).2);rw[hr]at TA DA WA E;rw[he]at TA DA NN;have SA:=Hx (λw=>fL re w NN.out);clear hr he;go_wp2
      go_region_held3 (λw'=>w'.cell? ⟨V,0,none⟩=some (.string X.kind)/\w'.cell? ⟨V,1,none⟩=some (.int .i64 X.a))
       (first|with_reducible assumption | with_reducible exact ST0.out | with_reducible exact ST1.out _ (by with_reducible assumption) | with_reducible exact ST2.out _ _ _ (by with_reducible assumption) (by with_reducible assumption) | with_reducible exact ST3.out _ _ (by with_reducible assumption) (by with_reducible assumption))
       (first
        | ((with_reducible refine TA.out.mono ?_); rintro e w5 ⟨rfl,h5,s5⟩)
        | ((with_reducible refine(DA.out _ (by with_reducible assumption)).mono ?_); rintro e w6 ⟨rfl,p6⟩)
        | ((with_reducible refine(SA.out _).mono ?_); rintro e w7 ⟨rfl,b7⟩))
      rename_i dT;clear dT;have FIN2:=Hx (SwO.out _ _ _ _ _ (END.out w5 w6 _ E.out h5 p6 WA.out) b7);clear h5 s5 p6 b7;go_wp2;go_meet;exact FIN2.out
    have q5:(X.kind.toList == [100,111,119,110])=false:=by rw[xC,decide_eq_false k5]
    have PL5:=Hx (PL4.out.trans (if_neg (λh=>h.elim k4 k5)));clear PL4;by_cases k6:X.kind=qE
    .as_aux_lemma =>
      have q6:(X.kind.toList == [115,121,110,99])=true:=by rw[xA,decide_eq_true k6]
      have E:=Hx (PL5.out.trans (if_pos k6));clear k1 k2 k3 k4 k5 k6 PL5;have TA:=Hs (Calls Tryz.prog 18 #[.pointer (some ⟨T,0,none⟩),.int .i64 X.a] w4.drew (λe w'=>e=.returned (bg (t.sync X.a).2)/\bR w2 10 D T (t.sync X.a).1 Y4 w'/\Same Y4 w4.drew w')) ((yd w2 w4.drew 10 D T t Y4 X.a (H4.out.over (Below.refl _ _).drew)).mono λ_ _ h=>⟨h.1,h.2.1,h.2.2.1⟩);have DA:=Hs (∀w5,Same Y4 w4.drew w5->Calls Tryz.prog 19 #[.pointer (some ⟨M,0,none⟩),.int .i64 X.a] w5 (λe w'=>e=.returned (.int .i64 (t.sync X.a).2)/\dS Y w5 M (t.sync X.a).1 w')) (λw5 s=>Ew X.a (NX.out w5 s).2);have NN:=Hx (DC t X.a);have WA:=Hx (WI4.out.sync X.a);obtain⟨rt,hr⟩:=Nm ((t.sync X.a).1);obtain⟨re,he⟩:=Nm ((t.sync X.a).2);rw[hr]at TA DA WA E;rw[he]at TA DA NN;have SA:=Hx (λw=>fL re w NN.out);clear hr he;go_wp2
      go_region_held3 (λw'=>w'.cell? ⟨V,0,none⟩=some (.string X.kind)/\w'.cell? ⟨V,1,none⟩=some (.int .i64 X.a))
       (first|with_reducible assumption | with_reducible exact ST0.out | with_reducible exact ST1.out _ (by with_reducible assumption) | with_reducible exact ST2.out _ _ _ (by with_reducible assumption) (by with_reducible assumption) | with_reducible exact ST3.out _ _ (by with_reducible assumption) (by with_reducible assumption))
       (first
        | ((with_reducible refine TA.out.mono ?_); rintro e w5 ⟨rfl,h5,s5⟩)
        | ((with_reducible refine(DA.out _ (by with_reducible assumption)).mono ?_); rintro e w6 ⟨rfl,p6⟩)
        | ((with_reducible refine(SA.out _).mono ?_); rintro e w7 ⟨rfl,b7⟩))
      rename_i dT;clear dT;have FIN2:=Hx (SwO.out _ _ _ _ _ (END.out w5 w6 _ E.out h5 p6 WA.out) b7);clear h5 s5 p6 b7;go_wp2;go_meet;exact FIN2.out
    have q6:(X.kind.toList == [115,121,110,99])=false:=by rw[xA,decide_eq_false k6]
    have PL6:=Hx (PL5.out.trans (if_neg k6));clear PL5;by_cases k7:X.kind=oD
    .as_aux_lemma =>
      have q7:(X.kind.toList == [112,111,119,101,114])=true:=by rw[uB,decide_eq_true k7]
      have E:=Hx (PL6.out.trans (if_pos k7));have TA:=Hx (vh w2 w4 10 D T t Y4 H4.out ⟨TJ4.out.kg,TI4.out.qi.ok,by have:=TI4.out.kb; omega⟩ (TT.out.on B2.out));have DA:=Hx (λw5 (h:mH Y w5 M t)=>Ci (n:=10) h TI4.out hB);have NN:=Hx (AL (n:=10) TI4.out hB);have WA:=Hx (WI4.out.power (n:=10) TI4.out hB);obtain⟨r,hr⟩:=Nm (t.power 10);rw[hr]at TA DA NN WA E;obtain⟨rt,re⟩:=r;dsimp only at TA DA NN WA E;clear k1 k2 k3 k4 k5 k6 k7 hr PL6;go_wp2_with fail;refine TA.out.mono ?_;rintro e w5 ⟨rfl,h5,s5⟩;have H5:=Hx h5;have DA3:=Hx (DA.out w5 (NX.out w5 s5).2);clear h5 s5 TA DA;go_wp2_with fail;refine DA3.out.mono ?_;rintro e w6 ⟨rfl,p6⟩;have FIN:=Hx (END.out w5 w6 _ E.out H5.out p6 WA.out);have SA:=Hx (fL re w6 NN.out);clear p6;go_wp2_with fail;refine SA.out.mono ?_;rintro e w7 ⟨rfl,b7⟩;have FIN2:=Hx (SwO.out _ _ _ _ _ FIN.out b7);clear b7;go_wp2;go_meet;exact FIN2.out
    have q7:(X.kind.toList == [112,111,119,101,114])=false:=by rw[uB,decide_eq_false k7]
    have E:=Hx (PL6.out.trans (if_neg k7));clear k1 k2 k3 k4 k5 k6 k7 PL6
    have WA:=Hs (WI (t.anew 10)) (by
     obtain⟨n1,-,-⟩:=fk (n:=10) TI4.out hB;unfold Tg.anew
     split
     .rename_i hz;by_cases hm:2<=(t.g.mem t.k.ep).length
      .by_cases he:t.k.ep=1000000
       .exact absurd hz (by rw[(fk (n:=10) TI4.out hB).2.2 hm he]; decide)
       .obtain⟨-,d',e2,-⟩:=n1 hm he;rw[e2];exact WI.nil rfl
      .exact absurd hz (by rw[(fk (n:=10) TI4.out hB).2.1 hm]; decide)
     .exact WI4.out)
    have NN:=Hx (Fq (n:=10) TI4.out hB);have GRP:=Hx (oa w2 w4 10 D T t Y4 H4.out)
    have NEW:=Hs (∀w',Below w4.heap.size w4 w'->Calls Tryz.prog 22 #[.pointer (some ⟨D,0,none⟩),.agg t.g.arr] w' λe w''=>nO w2 w' 10 D Y4 (Tg.new 10 t.k t.g) e w''/\(((Tg.start t.k t.g).isReady=false\/t.k.ep=1000000)->Below w'.heap.size w' w'')) (λw' b=>by
     obtain⟨X',m,ki,tb,lo,hy⟩:=H4.out.over b;have hY:∀c,Y4 c->X' c:=λc hc=>(hy c hc).1
     exact tB w2 w' 10 D t.k.d Y4 t.k.num t.k.ep t.k.s t.g (ki.dki hY) TI4.out.kd TJ4.out.sz TI4.out.qi.ok (by have:=TI4.out.kb; omega) (TT.out.on B2.out) (λc hc=>lo c (hY c hc)))
    have NRD:=Hs ((Tg.new 10 t.k t.g).2≠0->((Tg.start t.k t.g).isReady=false\/t.k.ep=1000000)) (λhz=>by
     obtain⟨n1,-,-⟩:=fk (n:=10) TI4.out hB;by_cases hm:2<=(t.g.mem t.k.ep).length
     .by_cases he:t.k.ep=1000000
      .exact .inr he
      .exact absurd (n1 hm he).1 hz
     .left
      have e1:(Tg.start t.k t.g).isReady=t.isReady:=rfl;rw[e1,TI4.out.isReady]
      exact decide_eq_false hm)
    obtain⟨ga,hga⟩:=Nm t.g.arr;rw[hga]at GRP NEW;clear hga;go_wp2_with fail;refine GRP.out.mono ?_;rintro e w5 ⟨rfl,b5⟩;have NEW2:=Hx (NEW.out w5 b5);have H5:=Hx (H4.out.over b5);have D5:=Hx (D4.out.over b5);clear b5 GRP NEW;go_wp2_with fail;refine NEW2.out.mono ?_;rintro e w6 ⟨hp,hlow⟩;obtain⟨f,hf⟩:=Nm ((Tg.new 10 t.k t.g).2);unfold nO at hp;rw[hf]at hp NN NRD;have HF:=Hx hf;clear hf;have SA:=Hx (λw=>fL f w NN.out);by_cases hz:f=0
    .obtain⟨T',rfl,h6,s6,-⟩:=hp.1 hz;have D6:=Hx (D5.out.same' λb e=>s6 b (YY.out.1 b e));have H6:=Hx h6;clear hp hlow h6 s6 NEW2;obtain⟨m6,g6⟩:=D6.out
     have DN:=Hs (Calls Tryz.prog 7 #[.agg #[.int .i64 t.k.s.gen,.slice m6.sa t.k.s.regs.length m6.sc,.int .i64 t.k.s.typ,.int .i64 t.k.s.holder,.bool t.k.s.stays],.int .i64 t.k.ep,.pointer (some ⟨m6.G,0,none⟩)] w6.drew (λe w'=>(∃M',e=.returned (.tuple #[.pointer (some ⟨M',0,none⟩),.int .i64 0])/\dS Y w6.drew M' (Tg.new 10 t.k t.g).1 w')/\ac (·=m6.G) w6.drew w')) (by
      refine(CG (n:=10) (g6.over (Below.refl _ _).drew) TI4.out hB).mono ?_;rintro e w' ⟨k,h1,h2⟩
      exact⟨h1 (HF.out.trans hz),k⟩)
     have SM:=Hs (∀w',ac (·=m6.G) w6.drew w'->w'.cell? ⟨M,0,none⟩=some (.int .i64 t.k.s.gen)/\w'.cell? ⟨M,1,none⟩=some (.slice m6.sa t.k.s.regs.length m6.sc)/\w'.cell? ⟨M,2,none⟩=some (.int .i64 t.k.s.typ)/\w'.cell? ⟨M,3,none⟩=some (.int .i64 t.k.s.holder)/\w'.cell? ⟨M,4,none⟩=some (.bool t.k.s.stays)/\w'.cell? ⟨M,5,none⟩=some (.int .i64 t.k.ep)/\w'.cell? ⟨M,6,none⟩=some (.pointer (some ⟨m6.G,0,none⟩))) (λw' k=>by
      have hM:=(k.block M (λe=>g6.MG e) (g6.own_lt M (.inl rfl))).trans g6.blk;obtain⟨⟨c0,c1,c2,c3,c4,c5,c6,-⟩,-⟩:=aY hM
      exact⟨c0,c1,c2,c3,c4,c5,c6⟩)
     have SM0:=Hx (SM.out w6.drew (ac.refl _ _));clear g6;go_wp2
     go_region_held3 (λw'=>w'.cell? ⟨M,0,none⟩=some (.int .i64 t.k.s.gen)/\w'.cell? ⟨M,1,none⟩=some (.slice m6.sa t.k.s.regs.length m6.sc)/\w'.cell? ⟨M,2,none⟩=some (.int .i64 t.k.s.typ)/\w'.cell? ⟨M,3,none⟩=some (.int .i64 t.k.s.holder)/\w'.cell? ⟨M,4,none⟩=some (.bool t.k.s.stays)/\w'.cell? ⟨M,5,none⟩=some (.int .i64 t.k.ep)/\w'.cell? ⟨M,6,none⟩=some (.pointer (some ⟨m6.G,0,none⟩)))
      (first|with_reducible assumption | with_reducible exact SM0.out | with_reducible exact SM.out _ (by with_reducible assumption))
      (first
       | ((with_reducible refine DN.out.mono ?_); rintro e w7 ⟨⟨M',rfl,p7⟩,k7⟩))
     rename_i dT;clear dT
     have FIN:=Hs (nn w2 D (3+2*((k+1:Nat):Int)) (.pointer (some ⟨T',0,none⟩)) (.pointer (some ⟨M',0,none⟩)) (.bool true) w7) (by
      obtain⟨S',hj'⟩:=PLAY.out;have e1:t.anew 10=(Tg.new 10 t.k t.g).1:=if_pos (HF.out.trans hz);have wa:=WA.out;rw[E.out,e1]at hj';rw[e1]at wa
      exact⟨T',M',_,S',_,rfl,rfl,rfl,JT.of H6.out YY.out.1 hj' (show dS Y w6 M' _ w7 from⟨p7.1,(ac.refl _ _).drew.trans p7.2⟩) wa⟩)
     have SB:=Hx (je w7);clear p7 k7;go_wp2_with fail;refine SB.out.mono ?_;rintro e w8 ⟨rfl,b8⟩;have FIN2:=Hx (SwO.out _ _ _ _ _ FIN.out b8);clear b8;go_wp2;go_meet;exact FIN2.out
    .obtain rfl:=hp.2 hz;have b6:=hlow (NRD.out hz);have D6:=Hx (D5.out.over b6);have H6:=Hx (H5.out.over b6);clear hp hlow b6 NEW2;obtain⟨m6,g6⟩:=D6.out
     have DN:=Hs (Calls Tryz.prog 7 #[.agg #[.int .i64 t.k.s.gen,.slice m6.sa t.k.s.regs.length m6.sc,.int .i64 t.k.s.typ,.int .i64 t.k.s.holder,.bool t.k.s.stays],.int .i64 t.k.ep,.pointer (some ⟨m6.G,0,none⟩)] w6.drew (λe w'=>(e=.returned (.tuple #[.pointer none,.int .i64 f])/\dS Y w6.drew M t w')/\ac (·=m6.G) w6.drew w')) (by
      refine(CG (n:=10) (g6.over (Below.refl _ _).drew) TI4.out hB).mono ?_;rintro e w' ⟨k,h1,h2⟩
      exact⟨HF.out▸h2 (λq=>hz (HF.out.symm.trans q)),k⟩)
     have SM:=Hs (∀w',ac (·=m6.G) w6.drew w'->w'.cell? ⟨M,0,none⟩=some (.int .i64 t.k.s.gen)/\w'.cell? ⟨M,1,none⟩=some (.slice m6.sa t.k.s.regs.length m6.sc)/\w'.cell? ⟨M,2,none⟩=some (.int .i64 t.k.s.typ)/\w'.cell? ⟨M,3,none⟩=some (.int .i64 t.k.s.holder)/\w'.cell? ⟨M,4,none⟩=some (.bool t.k.s.stays)/\w'.cell? ⟨M,5,none⟩=some (.int .i64 t.k.ep)/\w'.cell? ⟨M,6,none⟩=some (.pointer (some ⟨m6.G,0,none⟩))) (λw' k=>by
      have hM:=(k.block M (λe=>g6.MG e) (g6.own_lt M (.inl rfl))).trans g6.blk;obtain⟨⟨c0,c1,c2,c3,c4,c5,c6,-⟩,-⟩:=aY hM
      exact⟨c0,c1,c2,c3,c4,c5,c6⟩)
     have SM0:=Hx (SM.out w6.drew (ac.refl _ _));clear g6;go_wp2
     go_region_held3 (λw'=>w'.cell? ⟨M,0,none⟩=some (.int .i64 t.k.s.gen)/\w'.cell? ⟨M,1,none⟩=some (.slice m6.sa t.k.s.regs.length m6.sc)/\w'.cell? ⟨M,2,none⟩=some (.int .i64 t.k.s.typ)/\w'.cell? ⟨M,3,none⟩=some (.int .i64 t.k.s.holder)/\w'.cell? ⟨M,4,none⟩=some (.bool t.k.s.stays)/\w'.cell? ⟨M,5,none⟩=some (.int .i64 t.k.ep)/\w'.cell? ⟨M,6,none⟩=some (.pointer (some ⟨m6.G,0,none⟩)))
      (first|with_reducible assumption | with_reducible exact SM0.out | with_reducible exact SM.out _ (by with_reducible assumption))
      (first
       | ((with_reducible refine DN.out.mono ?_); rintro e w7 ⟨⟨rfl,p7⟩,k7⟩))
     rename_i dT;clear dT;have FIN:=Hs (nn w2 D (3+2*((k+1:Nat):Int)) (.pointer (some ⟨T,0,none⟩)) (.pointer (some ⟨M,0,none⟩)) (.bool true) w7) (      END.out w6 w7 t (E.out.trans (if_neg λq=>hz (HF.out.symm.trans q))) H6.out ⟨p7.1,(ac.refl _ _).drew.trans p7.2⟩ WI4.out);have SB:=Hx (SA.out w7)
     have q8:(f == 0)=false:=by simpa using hz
     clear p7 k7 hz;go_wp2_with fail;refine SB.out.mono ?_;rintro e w8 ⟨rfl,b8⟩;have FIN2:=Hx (SwO.out _ _ _ _ _ FIN.out b8);clear b8;go_wp2;go_meet;exact FIN2.out
   case rest =>
   obtain⟨T',M',u,S',Y',rfl,rfl,rfl,j⟩:=hcut
   obtain⟨w5,rfl⟩:∃w5:World,w5=wc:=⟨_,rfl⟩
   obtain⟨m5,h5⟩:=j.dg;have J:=Hx j;have TI5:=Hx j.tj.ti;have G5:=Hx h5;clear v0 v1 v2 d0 d1 d2 d3 d4 d5 d6 d7 d8 H4 D4 YY TJ4 WI4 TI4 PLAY PL END SwO HV HCI j h5;obtain⟨ga,hga⟩:=Nm u.g.arr;have RL:=Hs (u.k.s.regs.length<=1000) (by have:=TI5.out.good.regs_len; omega)
   have STA:=Hs (∀wx,Below w5.heap.size w5 wx->Calls Tryz.prog 25 #[.pointer (some ⟨T',0,none⟩)] wx (λe w'=>∃a2 c2,e=.returned (.agg #[.int .i64 u.k.s.gen,.slice a2 u.k.s.regs.length c2,.int .i64 u.k.s.typ,.int .i64 u.k.s.holder,.bool u.k.s.stays])/\bj w' u.k.s a2/\Below wx.heap.size wx w')) (λwx b=>by
    refine(ve w2 wx 10 D T' u Y' (J.out.tg.over b) RL.out).mono ?_;rintro e w' ⟨a2,c2,rfl,h1,h2,-⟩
    exact⟨a2,c2,rfl,h1,h2⟩)
   have SST:=Hs (∀wx a2 c2,Below w5.heap.size w5 wx->bj wx u.k.s a2->Calls Tryz.prog 24 #[.agg #[.int .i64 u.k.s.gen,.slice a2 u.k.s.regs.length c2,.int .i64 u.k.s.typ,.int .i64 u.k.s.holder,.bool u.k.s.stays],.agg #[.int .i64 u.k.s.gen,.slice m5.sa u.k.s.regs.length m5.sc,.int .i64 u.k.s.typ,.int .i64 u.k.s.holder,.bool u.k.s.stays]] wx (λe w'=>e=.returned (.bool true)/\Below wx.heap.size wx w')) (λwx a2 c2 b h =>
    oz u.k.s a2 m5.sa c2 m5.sc wx h ((G5.out.over b).str.str (G5.out.over b).len))
   have EPO:=Hs (∀wx,Below w5.heap.size w5 wx->Calls Tryz.prog 26 #[.pointer (some ⟨T',0,none⟩)] wx (λe w'=>e=.returned (.int .i64 u.k.ep)/\w'=wx)) (λwx b=>vq w2 wx 10 D T' u Y' (J.out.tg.over b));have GRP:=Hs (∀wx,Below w5.heap.size w5 wx->Calls Tryz.prog 23 #[.pointer (some ⟨T',0,none⟩)] wx (λe w'=>e=.returned (.agg ga)/\Below wx.heap.size wx w')) (λwx b=>hga▸oa w2 wx 10 D T' u Y' (J.out.tg.over b));have ASG:=Hs (∀wx,Below w5.heap.size w5 wx->Calls Tryz.prog 27 #[.agg ga,.pointer (some ⟨m5.G,0,none⟩)] wx (λe w'=>e=.returned (.bool true)/\Below wx.heap.size wx w')) (λwx b=>hga▸uQ u.g m5.G wx G5.out.ok (G5.out.over b).grp)
   have FLY:=Hs (∀wx,Below w5.heap.size w5 wx->Calls Tryz.prog 29 #[.pointer (some ⟨T',0,none⟩)] wx (λe w'=>∃a2 c2,e=.returned (.slice a2 u.fly.length c2)/\dC wx.heap.size w' (.slice a2 u.fly.length c2) u.fly/\Below wx.heap.size wx w')) (λwx b=>by
    refine(tD w2 wx 10 D T' u Y' (J.out.tg.over b) (by have:=TI5.out.fl; omega)).mono ?_;rintro e w' ⟨v,rfl,h1,h2⟩;obtain⟨-,q | ⟨g,c,cur,q,-⟩⟩:=id h1
    .have e0:u.fly.length=0:=q.2;rw[q.1]at h1 ⊢;exact⟨none,0,by rw[e0],by rw[e0]; exact h1,h2⟩
    .rw[q]at h1 ⊢
     exact⟨_,_,rfl,h1,h2⟩)
   have SMS:=Hs (∀wx B a2 c2,Below w5.heap.size w5 wx->dC B wx (.slice a2 u.fly.length c2) u.fly->Calls Tryz.prog 28 #[.slice a2 u.fly.length c2,.slice m5.fa u.fly.length m5.fc] wx (λe w'=>e=.returned (.bool true)/\Below wx.heap.size wx w')) (λwx B a2 c2 b h =>
    pS B 0 u.fly a2 m5.fa c2 m5.fc wx (by have:=TI5.out.fl; omega) h (G5.out.over b).fly)
   have WTG:=Hs (∀wx,Below w5.heap.size w5 wx->Calls Tryz.prog 31 #[.pointer (some ⟨T',0,none⟩)] wx (λe w'=>∃a2 c2,e=.returned (.slice a2 (u.wait.map (·.tag)).length c2)/\bh wx.heap.size w' (.slice a2 (u.wait.map (·.tag)).length c2) (u.wait.map (·.tag))/\Below wx.heap.size wx w')) (λwx b=>by
    refine(rD w2 wx 10 D T' u Y' (J.out.tg.over b) TI5.out.wl TI5.out.ws).mono ?_;rintro e w' ⟨v,rfl,h1,h2⟩;obtain⟨a2,c2,rfl,-⟩:=h1.shape
    exact⟨a2,c2,rfl,h1,h2⟩)
   have TGS:=Hs (∀wx,Below w5.heap.size w5 wx->Calls Tryz.prog 32 #[.pointer (some ⟨M',0,none⟩)] wx (λe w'=>∃a2 c2,e=.returned (.slice a2 (u.wait.map (·.tag)).length c2)/\bh wx.heap.size w' (.slice a2 (u.wait.map (·.tag)).length c2) (u.wait.map (·.tag))/\Below wx.heap.size wx w')) (λwx b=>by
    refine(zq (G5.out.over b) (by have:=TI5.out.wl; omega)).mono ?_;rintro e w' ⟨v,rfl,h1,h2⟩;obtain⟨a2,c2,rfl,-⟩:=h1.shape
    exact⟨a2,c2,rfl,h1,h2⟩)
   have WL:=Hs ((u.wait.map (·.tag)).length<=maxLen) (by have:=TI5.out.wl; rw[List.length_map]; unfold maxLen; omega);obtain⟨TS,hTS⟩:=Nm (u.wait.map (·.tag));rw[hTS]at WTG TGS WL
   have SNM:=Hs (∀wx B C a2 c2 a3 c3,bh B wx (.slice a2 TS.length c2) TS->bh C wx (.slice a3 TS.length c3) TS->Calls Tryz.prog 30 #[.slice a2 TS.length c2,.slice a3 TS.length c3] wx (λe w'=>e=.returned (.bool true)/\Below wx.heap.size wx w')) (λwx B C a2 c2 a3 c3 h1 h2=>by
    obtain⟨x1,y1,e1,i1⟩:=h1.shape;obtain⟨x2,y2,e2,i2⟩:=h2.shape;simp only[Value.slice.injEq]at e1 e2;obtain⟨rfl,-,rfl⟩:=e1;obtain⟨rfl,-,rfl⟩:=e2;refine(nt TS TS a2 a3 c2 c3 wx WL.out WL.out i1 i2).mono ?_;rintro e w' ⟨rfl,b⟩
    exact⟨by simp,b⟩)
   have KEEP:=Hs (∀w',Below w5.heap.size w5 w'->Below w5.heap.size w5 w'/\w'.cell? ⟨M',0,none⟩=some (.int .i64 u.k.s.gen)/\w'.cell? ⟨M',1,none⟩=some (.slice m5.sa u.k.s.regs.length m5.sc)/\w'.cell? ⟨M',2,none⟩=some (.int .i64 u.k.s.typ)/\w'.cell? ⟨M',3,none⟩=some (.int .i64 u.k.s.holder)/\w'.cell? ⟨M',4,none⟩=some (.bool u.k.s.stays)/\w'.cell? ⟨M',5,none⟩=some (.int .i64 u.k.ep)/\w'.cell? ⟨M',6,none⟩=some (.pointer (some ⟨m5.G,0,none⟩))/\w'.cell? ⟨M',14,none⟩=some (.slice m5.fa u.fly.length m5.fc)) (λw' b=>by
    obtain⟨⟨c0,c1,c2,c3,c4,c5,c6,c7,c8,c9,c10,-⟩,-⟩:=aY (G5.out.over b).blk
    exact⟨b,c0,c1,c2,c3,c4,c5,c6,c10⟩)
   clear hTS hga;go_upto_region 38 with fail;go_cut [267] (λv wx=>v=.bool false/\Below w5.heap.size w5 wx)
   case first=>as_aux_lemma =>
    have q5:(u.k.ep != u.k.ep)=false:=by simp
    go_region_held3 (λw'=>Below w5.heap.size w5 w'/\w'.cell? ⟨M',0,none⟩=some (.int .i64 u.k.s.gen)/\w'.cell? ⟨M',1,none⟩=some (.slice m5.sa u.k.s.regs.length m5.sc)/\w'.cell? ⟨M',2,none⟩=some (.int .i64 u.k.s.typ)/\w'.cell? ⟨M',3,none⟩=some (.int .i64 u.k.s.holder)/\w'.cell? ⟨M',4,none⟩=some (.bool u.k.s.stays)/\w'.cell? ⟨M',5,none⟩=some (.int .i64 u.k.ep)/\w'.cell? ⟨M',6,none⟩=some (.pointer (some ⟨m5.G,0,none⟩))/\w'.cell? ⟨M',14,none⟩=some (.slice m5.fa u.fly.length m5.fc))
     (first|(refine KEEP.out _ ?_; first | exact(Below.refl _ _).drew | with_reducible exact And.left (by with_reducible assumption) | exact Below.trans (And.left (by with_reducible assumption)) (Below.mono (by with_reducible assumption) (Below.size (And.left (by with_reducible assumption))))))
     (first
      | ((with_reducible refine(STA.out _ (And.left (by with_reducible assumption))).mono ?_); rintro e w6 ⟨a6,c6,rfl,st6,b6⟩)
      | ((with_reducible refine(SST.out _ _ _ (And.left (by with_reducible assumption)) (by with_reducible assumption)).mono ?_); rintro e w7 ⟨rfl,b7⟩)
      | ((with_reducible refine(EPO.out _ (And.left (by with_reducible assumption))).mono ?_); rintro e w8 ⟨rfl,rfl⟩)
      | ((with_reducible refine(GRP.out _ (And.left (by with_reducible assumption))).mono ?_); rintro e w9 ⟨rfl,b9⟩)
      | ((with_reducible refine(ASG.out _ (And.left (by with_reducible assumption))).mono ?_); rintro e w10 ⟨rfl,b10⟩)
      | ((with_reducible refine(FLY.out _ (And.left (by with_reducible assumption))).mono ?_); rintro e w11 ⟨a11,c11,rfl,o11,b11⟩)
      | ((with_reducible refine(SMS.out _ _ _ _ (And.left (by with_reducible assumption)) (by with_reducible assumption)).mono ?_); rintro e w12 ⟨rfl,b12⟩)
      | ((with_reducible refine(WTG.out _ (And.left (by with_reducible assumption))).mono ?_); rintro e w13 ⟨a13,c13,rfl,o13,b13⟩)
      | ((with_reducible refine(TGS.out _ (And.left (by with_reducible assumption))).mono ?_); rintro e w14 ⟨a14,c14,rfl,o14,b14⟩; have o13':=bh.below o13 b14)
      | ((with_reducible refine(SNM.out _ _ _ _ _ _ _ o13' o14).mono ?_); rintro e w15 ⟨rfl,b15⟩))
    rename_i dT;have BB:=Hx dT.1;clear dT b6 b7 b9 b10 b11 b12 b13 b14 b15 st6 o11 o13 o14 o13';go_wp2;go_meet;exact⟨rfl,BB.out⟩
   case rest =>
   obtain⟨rfl,b6⟩:=hcut
   obtain⟨w6,rfl⟩:∃w6:World,w6=wc:=⟨_,rfl⟩
   have J6:=Hx (J.out.over b6);have TDN:=Hx (λn=>qs w2 w6 10 D T' u Y' n J6.out.tg);have DDN:=Hx (λn=>zA n (G5.out.over b6))
   have k80:k<80:=by omega
   clear b6 STA SST EPO GRP ASG FLY SMS WTG TGS SNM KEEP J G5 TI5 RL WL hb hB h80 hl TT HL B2 HR;go_wp2;go_loop [27] (λi=>∃n:Nat,n<=9/\i=.int .i64 n) (λi=>9 - (RowKit.intOf i).toNat)
   case atStart=>exact⟨0,by omega,rfl⟩
   case round =>
    obtain⟨n,hn,rfl⟩:=hrel;cases ‹w6=w6›
    by_cases hn9:n<9
    .have T1:=Hx (TDN.out n);have D1:=Hx (DDN.out n);obtain⟨Q,hQ⟩:=Nm (decide ((n:Int)∈u.done));rw[hQ]at T1 D1
     have q:(Q != Q)=false:=by cases Q<;>rfl
     clear hQ;go_wp2_with fail;refine T1.out.mono ?_;rintro e w7 ⟨rfl,rfl⟩;go_wp2_with fail;refine D1.out.mono ?_;rintro e w8 ⟨rfl,rfl⟩;go_wp2;go_round
     case rel=>exact⟨n+1,by omega,by go_num⟩
     case measure=>simp[RowKit.intOf]; omega
    .go_wp2;go_roundw
     case rel=>exact⟨k+1,T',M',u,S',Y',by omega,rfl,rfl,by go_num,J6.out⟩
     case measure=>simp[RowKit.intOf]; omega
  .have P:=Hs (Below w.heap.size w wr) (B2.out.trans (HJ.out.tg.below.mono B2.out.size));clear hj HJ;go_wp2;go_ret;exact⟨rfl,P.out⟩
