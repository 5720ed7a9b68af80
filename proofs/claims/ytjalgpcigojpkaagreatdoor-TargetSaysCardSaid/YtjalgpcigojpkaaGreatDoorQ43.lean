import Derived.Test.YtjalgpcigojpkaaGreatDoorQ42
set_option maxRecDepth 99999
set_option maxHeartbeats 99999999
namespace Go.Proofs.YtjalgpcigojpkaaGreatDoor
section
open Go.RowKit Go.Sort
def Hq (Y:Nat->Prop)(w:World)(M:Nat)(m:Dm)(t:Tg)(tt a:Nat)(c:aw)(tag:Int)(wx:World):Prop :=
 ∃m1,m1.G=m.G/\bO (bL Y w wx) wx M m1 t/\ac Y w wx/\wx.heap[w.heap.size]?=some (.cells (iP tt a c tag) 124 (0,0))
def G8 (w:World)(M G tt a:Nat)(c:aw)(tag:Int)(w':World):Prop :=
 w'.cell? ⟨M,6,none⟩=some (.pointer (some ⟨G,0,none⟩))/\w'.cell? ⟨w.heap.size,0,none⟩=some (.int .i64 tt)/\w'.cell? ⟨w.heap.size,1,none⟩=some (.int .i64 a)/\w'.cell? ⟨w.heap.size,2,none⟩=some (.int .i64 c.e)/\w'.cell? ⟨w.heap.size,3,none⟩=some (.int .i64 c.n)/\w'.cell? ⟨w.heap.size,4,none⟩=some (.string c.d)/\w'.cell? ⟨w.heap.size,5,none⟩=some (.int .i64 tag)
theorem r7{w:World}{b:Nat}{tt a:Int}{c:aw}{tag:Int}{T:TypeId}(h:w.heap[b]?=some (.cells (iP tt a c tag) T (0,0))) : w.cell? ⟨b,0,none⟩=some (.int .i64 tt)/\w.cell? ⟨b,1,none⟩=some (.int .i64 a)/\w.cell? ⟨b,2,none⟩=some (.int .i64 c.e)/\w.cell? ⟨b,3,none⟩=some (.int .i64 c.n)/\w.cell? ⟨b,4,none⟩=some (.string c.d)/\w.cell? ⟨b,5,none⟩=some (.int .i64 tag):=by
 simp[World.cell?,h,iP]
section
variable {Y:Nat->Prop} {w:World} {M:Nat} {m:Dm} {t:Tg}
theorem sG(i:Int)(stays:Bool)(h:bO Y w M m t)(hl:t.fly.length<=40)(hm:∀x∈t.fly,0<=x.tt/\x.tt<3/\0<=x.at'/\x.at'<8)(hw:t.wait.length<=6)(ws:t.wait.Pairwise λa b=>a.tag<b.tag)(w1:∀x∈t.wait,x.hv.length<=1)(wi:WI t)(tg:t.tag<=1000000) :
  Calls Tryz.prog 13 #[.pointer (some ⟨M,0,none⟩),.int .i64 i,.bool stays] w λe w'=>e=.returned (.tuple #[.bool (t.deliver i stays).2.1,.int .i64 (t.deliver i stays).2.2])/\dS Y w M (t.deliver i stays).1 w':=by
 obtain⟨i1,hj0,Lm,MV,hj3⟩:=info_parts Tryz.infoDW;obtain⟨i0,Ni,L2,hi2,Js⟩:=info_parts Tryz.infoInt;have H:=Hx h;obtain⟨⟨-,-,-,-,-,-,-,-,-,-,c10,-⟩,-⟩:=aY h.blk;by_cases hi:i<0\/(t.fly.length:Int)<=i
 .have E:=Hs (t.deliver i stays=(t,false,8)) (if_pos hi);rw[E.out];have R:=Hx (dS.refl ⟨m,h⟩);clear h;by_cases hn:i<0
  .clear hi;go_enter Tryz.func13,Tryz.ntmps13
   go_wp2;exact bodyPost_ret (v:=.tuple #[.bool false,.int .i64 8]) (by simp[results,Tryz.results13,go_sem]) rfl ⟨rfl,R.out⟩
  .have h2:(t.fly.length:Int)<=i:=by omega
   clear hi;go_enter Tryz.func13,Tryz.ntmps13
   go_wp2;exact bodyPost_ret (v:=.tuple #[.bool false,.int .i64 8]) (by simp[results,Tryz.results13,go_sem]) rfl ⟨rfl,R.out⟩
 obtain⟨k,rfl⟩:∃k:Nat,i=k:=⟨i.toNat,by omega⟩
 have hk:k<t.fly.length:=by omega
 obtain⟨ms,hms⟩:=Nm (t.fly[k]);have NM:=hm _ (List.getElem_mem hk);rw[hms]at NM;obtain⟨tt,a,c,tag⟩:=ms;dsimp only at NM
 obtain⟨tt,rfl⟩:∃n:Nat,tt=n:=⟨tt.toNat,by omega⟩
 obtain⟨a,rfl⟩:∃n:Nat,a=n:=⟨a.toNat,by omega⟩
 have HM:=Hx (show tt<3/\a<8 by omega);obtain⟨F,hF⟩:=Nm (if stays then t.fly else t.fly.eraseIdx k);obtain⟨D,hD⟩:=Nm (t.g.delivers tt c);obtain⟨T1,Of⟩:=Nm ({ t with fly:=F,g:=t.g.deliver tt a c }:Tg)
 have E:=Hs (t.deliver k stays=if D=true then(T1.came ⟨tt,a,c,tag⟩,true,0) else(T1,false,0)) (by
  unfold Tg.deliver;rw[if_neg hi,show((k:Int)).toNat=k from rfl,show t.fly.getD k ⟨0,0,aw.zero,0⟩=⟨tt,a,c,tag⟩ by simp[hk,hms],<-hD,<-Of,<-hF]
  rfl)
 rw[E.out];obtain⟨b,JK,LY,hc⟩:=h.fl_at k hk;rw[hms]at hc;have d0:w.cell? ⟨b,k*6,none⟩=some (.int .i64 tt):=hc 0 (by omega);have d1:w.cell? ⟨b,k*6+1,none⟩=some (.int .i64 a):=hc 1 (by omega);have d2:w.cell? ⟨b,k*6+2,none⟩=some (.int .i64 c.e):=hc 2 (by omega);have d3:w.cell? ⟨b,k*6+3,none⟩=some (.int .i64 c.n):=hc 3 (by omega);have d4:w.cell? ⟨b,k*6+4,none⟩=some (.string c.d):=hc 4 (by omega);have d5:w.cell? ⟨b,k*6+5,none⟩=some (.int .i64 tag):=hc 5 (by omega);rw[JK]at c10
 have q1:¬ (k:Int)<0:=by omega
 have q2:¬ (t.fly.length:Int)<=(k:Int):=by omega
 have q3:(k:Int)<(t.fly.length:Int):=by omega
 have HK:=Hx hk;have HLn:=Hx hl;have HF:=Hx hF;have HT:=Hx Of;obtain⟨ST,hST⟩:=Nm (!stays);have Jb:=Hx hST;clear h hi hc JK hm hms NM hF Of hk hl;go_enter Tryz.func13,Tryz.ntmps13
 go_upto_region 4 with fail;obtain⟨wb,Iz⟩:=Nn (w.alloc (.cells #[.int .i64 tt,.int .i64 a,.int .i64 c.e,.int .i64 c.n,.string c.d,.int .i64 tag] 124));rw[<-Iz];have B1:=Hs (Below w.heap.size w wb) (Iz▸ay w _);have X1:=Hs (wb.heap[w.heap.size]?=some (.cells (iP tt a c tag) 124 (0,0))) (Iz▸heap_alloc_new w _);have H1:=Hx (H.out.over B1.out);clear Iz d0 d1 d2 d3 d4 d5 c10 LY q1 q2 q3;go_upto_if 34 with fail;go_cut [34] (λ_ wx=>Hq Y w M m { t with fly:=F } tt a c tag wx)
 case first=>as_aux_lemma =>
  cases stays
  .obtain rfl:true=ST:=Jb.out;obtain rfl:t.fly.eraseIdx k=F:=HF.out;have WO:=Hx (mL 0 t.fly m.fa m.fc k wb (by have:=HLn.out; omega) HK.out H1.out.fly);obtain⟨⟨-,-,-,-,-,-,-,-,-,-,c10,-⟩,hf⟩:=aY H1.out.blk;have hf14:=hf 14;clear hf;go_wp2_with fail;refine WO.out.mono ?_;rintro e w2 ⟨v,rfl,own,b2⟩
   obtain⟨fa,fc,rfl⟩:∃fa fc,v=.slice fa (t.fly.eraseIdx k).length fc:=by
    obtain⟨-,h2 | ⟨g,c,cur,e,-⟩⟩:=own
    .exact⟨none,0,by rw[h2.1,h2.2]⟩
    .exact⟨_,_,e⟩
   have P:=Hx (H1.out.newFly b2 own);have X2:=Hx ((b2.block _ (Gl X1.out)).trans X1.out);have H2:=Hx (H1.out.over b2);obtain⟨⟨-,-,-,-,-,-,-,-,-,-,d10,-⟩,hf⟩:=aY H2.out.blk;have g14:=hf 14;clear own b2 hf c10 hf14;go_wp2;go_meet;have kk:=(ac.of_below (S:=(·=M)) B1.out).trans P.out.2;have hz:=P.out.2.size;have Ii:=B1.out.size;refine⟨{ m with fa:=fa,fc:=fc },rfl,?_,kk.mono λb e=>e▸H.out.own M (.inl rfl),(P.out.2.block _ (λe=>by have:=H.out.own_lt M (.inl rfl); omega) (Gl X1.out)).trans X1.out⟩;exact P.out.1.mono λb e=>e.elim .inl λe=>.inr ⟨by omega,Nat.lt_of_lt_of_le e.2 (by simp[World.setCell])⟩
  .obtain rfl:false=ST:=Jb.out;obtain rfl:t.fly=F:=HF.out;go_wp2;go_meet;exact⟨m,rfl,H1.out.mono λb e=>.inl e,ac.of_below B1.out,X1.out⟩
 case rest =>
 obtain⟨w2,rfl⟩:∃w2:World,w2=wc:=⟨_,rfl⟩
 obtain⟨m1,-,h2,k2,x2⟩:=hcut;have DEL:=Hs (Calls Tryz.prog 64 #[.pointer (some ⟨m1.G,0,none⟩),.agg #[.int .i64 tt,.int .i64 a,.int .i64 c.e,.int .i64 c.n,.string c.d,.int .i64 tag]] w2.drew (λe w'=>e=.returned (.bool D)/\PG w2.drew m1.G (t.g.deliver tt a c) w')) (hD▸pV t.g tt a c tag m1.G w2.drew h2.ok HM.out.1 HM.out.2 h2.grp);have H2:=Hx h2;have K2:=Hx k2;have X2:=Hx x2;have NG:=Hs (M≠m1.G/\w.heap.size≠m1.G) (⟨h2.MG,cR x2 h2.grp (by decide)⟩);have LT:=Hs (M<w2.heap.size/\w.heap.size<w2.heap.size) (⟨h2.own_lt M (.inl rfl),(Gl x2)⟩);have S0:=Hs (G8 w M m1.G tt a c tag w2.drew) (⟨(aY h2.blk).1.2.2.2.2.2.2.1,r7 x2⟩)
 have S1:=Hs (∀g w',PG w2.drew m1.G g w'->G8 w M m1.G tt a c tag w') (λg w' f=>by
  have k6:=f.keeps.cell (b:=M) (o:=6) (λe=>NG.out.1 e) LT.out.1;have kx:=f.keeps.block w.heap.size (λe=>NG.out.2 e) LT.out.2
  exact⟨k6.trans S0.out.1,r7 (kx.trans X2.out)⟩)
 clear h2 k2 x2 hD;unfold G8 at S0 S1;go_wp2
 go_region_held3 (λw'=>w'.cell? ⟨M,6,none⟩=some (.pointer (some ⟨m1.G,0,none⟩))/\w'.cell? ⟨w.heap.size,0,none⟩=some (.int .i64 tt)/\w'.cell? ⟨w.heap.size,1,none⟩=some (.int .i64 a)/\w'.cell? ⟨w.heap.size,2,none⟩=some (.int .i64 c.e)/\w'.cell? ⟨w.heap.size,3,none⟩=some (.int .i64 c.n)/\w'.cell? ⟨w.heap.size,4,none⟩=some (.string c.d)/\w'.cell? ⟨w.heap.size,5,none⟩=some (.int .i64 tag))
  (first|with_reducible assumption | with_reducible exact S0.out | with_reducible exact S1.out _ _ (by with_reducible assumption))
  (first
   | (with_reducible refine DEL.out.mono ?_; rintro e w3 ⟨rfl,hp⟩))
 have f3:=PG.of_drew hp
 have H3:=Hs (bO (bL Y w w3) w3 M m1 T1) (by
  rw[<-HT.out]
  exact(H2.out.setG f3).mono λb e=>e.imp id λe=>⟨e.1,Nat.lt_of_lt_of_le e.2 f3.keeps.size⟩)
 have K3:=Hs (ac Y w w3) (K2.out.more (f3.keeps.mono λb e=>e▸H2.out.own m1.G (.inr (.inl rfl))));have X3:=Hx ((f3.keeps.block _ (λe=>NG.out.2 e) LT.out.2).trans X2.out);have WS:=Hs (T1.wait.Pairwise λa b=>a.tag<b.tag) (by rw[<-HT.out]; exact ws);have WV:=Hs (∀x∈T1.wait,x.hv.length<=1/\∀y∈x.hv,0<=y/\y<3) (by rw[<-HT.out]; exact λx hx=>⟨w1 x hx,wi x hx⟩)
 have LW:=Hs (T1.wait.length<=6/\m1.dl.length<=1000000) (by
  have h1:T1.wait=t.wait:=by rw[<-HT.out]
  have h2:T1.tag=t.tag:=by rw[<-HT.out]
  have:=H3.out.cnt
  exact⟨by rw[h1]; exact hw,by omega⟩)
 clear hp f3 H2 K2 X2 NG LT S0 S1 DEL ws w1 wi hw tg HT HF HK HLn Jb hST B1 X1 H1;rename_i dT;clear dT;cases D
 .go_wp2;exact bodyPost_ret (v:=.tuple #[.bool false,.int .i64 0]) (by simp[results,Tryz.results13,go_sem]) rfl ⟨rfl,dS.of H3.out K3.out⟩
 go_wp2;go_loopw [10,11] (λv i wr=>Hr w3 M m1 T1 tag tt v i wr) (λ_ i _=>T1.wait.length - (RowKit.intOf i).toNat)
 case atStart=>exact⟨0,_,_,_,by omega,rfl,sY.start H3.out⟩
 case round =>
  obtain⟨j,da,dc,dl,hj,rfl,d1⟩:=hrel;have D1:=Hx d1;obtain⟨⟨-,-,-,-,-,-,-,-,-,c9',-,c11'⟩,-⟩:=aY d1.row;have c9:wr.cell? ⟨M,13,none⟩=some (.slice m1.wa T1.wait.length m1.wc):=c9';clear c9' c11' d1;have hl6:((T1.wait.take j).filterMap (cT tag tt)).length<=6:=Nat.le_trans (List.length_filterMap_le _ _) (by have:=LW.out.1; rw[List.length_take]; omega)
  have j6:j<=6:=by have:=LW.out.1; omega
  by_cases lB:j<T1.wait.length
  .obtain⟨bw,hwa,LY,f0,f1,f2,f3⟩:=sY.wt H3.out D1.out j lB;obtain⟨x,hx⟩:=Nm (T1.wait[j]);rw[hwa]at c9;rw[hx]at f0 f1 f2 f3;have HX:=Hx hx;have LT:=Hx lB;have VX:=Hx (hx▸WV.out _ (List.getElem_mem lB));go_upto_region 14 with fail;obtain⟨wx,hwx⟩:=Nn (wr.alloc (.cells #[.int .i64 x.tag,.bool (decide ((0:Int)∈x.hv)),.bool (decide ((1:Int)∈x.hv)),.bool (decide ((2:Int)∈x.hv))] 126));rw[<-hwx];have BX:=Hs (Below wr.heap.size wr wx) (hwx▸ay wr _);have XB:=Hs (wx.heap[wr.heap.size]?=some (.cells x.row.toArray 126 (0,0))) (hwx▸heap_alloc_new wr _)
   have XM:=Hs (wx.heap[w.heap.size]?=some (.cells (iP tt a c tag) 124 (0,0))) (by
    have l3:=(Gl X3.out)
    refine(BX.out.block _ (Nat.lt_of_lt_of_le l3 D1.out.ks.size)).trans ((D1.out.ks.block _ ?_ l3).trans X3.out);rintro (q | ⟨o,q⟩)
    .exact cR X3.out H3.out.blk (by decide) q
    .exact cR X3.out (aM H3.out.done q).choose_spec (by decide) rfl)
   obtain⟨e0,-,-,-,-,e5⟩:=r7 XM.out;obtain⟨⟨r0,r1,r2,r3⟩,hf⟩:=rA XB.out;clear hwx c9 hwa LY f0 f1 f2 f3;by_cases hxt:x.tag=tag
   .have q:(x.tag == tag)=true:=by simp[hxt]
    have t3:(tt:Int)<3:=by have:=HM.out; omega
    obtain⟨fl,rt⟩:=Dn XB.out HM.out.1;have ft:=hf (1+tt);go_upto_region 16 with fail;obtain⟨wy,hwy⟩:=Nn (wx.setCell ⟨wr.heap.size,1+tt,none⟩ (.bool true));rw[<-hwy];have BY:=Hs (Below wr.heap.size wr wy) (hwy▸((ac.of_below (S:=λb=>wr.heap.size<=b) BX.out).setCell (p:=⟨wr.heap.size,1+tt,none⟩) (Nat.le_refl _) _).below (Nat.le_refl _) λ_ e=>e);obtain⟨y,hy⟩:=Nm (x.put tt)
    have XY:=Hs (wy.heap[wr.heap.size]?=some (.cells y.row.toArray 126 (0,0))) (by
     rw[hwy,<-hy,<-(q9 VX.out.1 VX.out.2 HM.out.1).1]
     exact block_setCell XB.out _)
    have YT:y.tag=tag:=by rw[<-hy]; exact hxt
    obtain⟨⟨s0,s1,s2,s3⟩,-⟩:=rA XY.out;rw[YT]at s0;have CN:=Hx (hy▸(q9 VX.out.1 VX.out.2 HM.out.1).2);have HYY:=Hx (And.intro hxt hy);obtain⟨g0,hg0⟩:=Nm (decide ((0:Int)∈y.hv));obtain⟨g1,Il⟩:=Nm (decide ((1:Int)∈y.hv));obtain⟨g2,Ja⟩:=Nm (decide ((2:Int)∈y.hv));rw[hg0,Il,Ja]at CN;rw[hg0]at s1;rw[Il]at s2;rw[Ja]at s3;have YR:=Hs (y.row=[.int .i64 tag,.bool g0,.bool g1,.bool g2]) (by unfold Wt.row; rw[hg0,Il,Ja,YT]);have YO:=Hx (YR.out▸row_one y);clear hwy e0 e5 r0 r1 r2 r3 hf q t3 rt ft hxt hy hg0 Il Ja YT;go_wp2;go_loop [13,14] (λn i=>∃l:Nat,l<=3/\i=.int .i64 l/\n=.int .i64 ((([g0,g1,g2].take l).filter id).length:Nat)) (λ_ i=>3 - (RowKit.intOf i).toNat)
    case atStart=>exact⟨0,by omega,rfl,rfl⟩
    case round =>
     obtain⟨l,hl,rfl,rfl⟩:=hrel
     obtain⟨N,hN⟩:∃N:Nat,(([g0,g1,g2].take l).filter id).length=N:=⟨_,rfl⟩
     rw[hN]
     have hN3:N<=3:=by rw[<-hN]; exact Nat.le_trans (List.length_filter_le _ _) (by rw[List.length_take]; exact Nat.min_le_right _ _)
     rcases (by omega:l=0\/l=1\/l=2\/l=3) with rfl | rfl | rfl | rfl
     .cases g0
      .have HN:=Hs ((([false,g1,g2].take 1).filter id).length=N) (by rw[<-hN]; cases g1<;>cases g2<;>rfl);clear hN;go_wp2;go_round
       case rel=>exact⟨1,by omega,rfl,by rw[HN.out]⟩
       case measure=>simp[RowKit.intOf]
      .have HN:=Hs ((([true,g1,g2].take 1).filter id).length=N+1) (by rw[<-hN]; cases g1<;>cases g2<;>rfl);clear hN;go_wp2;go_round
       case rel=>exact⟨1,by omega,rfl,by rw[HN.out]; go_num⟩
       case measure=>simp[RowKit.intOf]
     .cases g1
      .have HN:=Hs ((([g0,false,g2].take 2).filter id).length=N) (by rw[<-hN]; cases g0<;>cases g2<;>rfl);clear hN;go_wp2;go_round
       case rel=>exact⟨2,by omega,rfl,by rw[HN.out]⟩
       case measure=>simp[RowKit.intOf]
      .have HN:=Hs ((([g0,true,g2].take 2).filter id).length=N+1) (by rw[<-hN]; cases g0<;>cases g2<;>rfl);clear hN;go_wp2;go_round
       case rel=>exact⟨2,by omega,rfl,by rw[HN.out]; go_num⟩
       case measure=>simp[RowKit.intOf]
     .cases g2
      .have HN:=Hs ((([g0,g1,false].take 3).filter id).length=N) (by rw[<-hN]; cases g0<;>cases g1<;>rfl);clear hN;go_wp2;go_round
       case rel=>exact⟨3,by omega,rfl,by rw[HN.out]⟩
       case measure=>simp[RowKit.intOf]
      .have HN:=Hs ((([g0,g1,true].take 3).filter id).length=N+1) (by rw[<-hN]; cases g0<;>cases g1<;>rfl);clear hN;go_wp2;go_round
       case rel=>exact⟨3,by omega,rfl,by rw[HN.out]; go_num⟩
       case measure=>simp[RowKit.intOf]
     .replace CN:=Hx (hN▸CN.out);clear hN;by_cases h2:2<=N
      .have q:(2:Int)<=(N:Int):=by omega
       have HW:=Hs (fX tag tt (T1.wait[j]'lB)=true) (by
        rw[HX.out];unfold fX;rw[HYY.out.2,decide_eq_true HYY.out.1,decide_eq_true (CN.out.2 h2)]
        rfl)
       clear h2
       have LM:=Hs (M<wy.heap.size/\wy.heap[M]?=some (.cells (eT { m1 with da:=da,dc:=dc,dl:=dl } T1) 78 (0,0))) (by
        have l1:=(Gl D1.out.row)
        exact⟨Nat.lt_of_lt_of_le l1 BY.out.size,(BY.out.block M l1).trans D1.out.row⟩)
       have OD:=Hx (own_below D1.out.done BY.out)
       have NO:=Hs ((Value.slice da dl.length dc).ownBlock≠some M) (λe=>by
        obtain⟨cur,hc⟩:=rN OD.out e
        exact cR hc LM.out.2 (by decide) rfl)
       have AT6:=Hs (∀(o:Obj) (w6:World),(wy.drew.alloc o).grownBy w6 (Value.slice da dl.length dc).ownBlock->w6.cell? ⟨M,15,none⟩=some (.slice da dl.length dc)/\w6.frozen? ⟨M,15,none⟩=false) (λo w6 hg=>by
        have hb:w6.heap[M]?=wy.heap[M]?:=(hg.block M (by have:=LM.out.1; simp; omega) (Ne.symm NO.out)).trans (Below.heap_alloc _ _ _ LM.out.1)
        simp[World.cell?,World.frozen?,hb,LM.out.2])
       have c2:wy.cell? ⟨M,15,none⟩=some (.slice da dl.length dc):=by simp[World.cell?,LM.out.2]
       have a2:∀o,(wy.alloc o).cell? ⟨M,15,none⟩=some (.slice da dl.length dc):=λo=>(World.cell?_alloc_some _ _ _ (by rw[c2]; rfl)).trans c2
       have hd:dl.length<=1000006:=by have:=D1.out.len; have:=LW.out.2; omega
       clear s1 s2 s3;go_wp2
       go_region_law (first|(refine step_append_lies _ (by rfl) _ _ _ (by rfl) 0 3 i0 _ 1 8 Tryz.underlying71 Ni L2 hi2 Js rfl (by omega) (.slice da dl.length dc) dl.length (dl.map (Value.int .i64)) (by rfl) (World.ownsRow.alloc OD.out _) ⟨wy.heap.size,0,none⟩ 1 1 [.int .i64 tag] (by rfl) (by rfl) (World.news_of_block (heap_alloc_new _ _)) (jr [tag]) (by omega) (by unfold maxLen; omega) (by omega) (by omega) _ rfl ?_; intro g6 cap6 w6 IH Ic Jl JG; have kd6:=(AT6.out _ _ Ic).1; have fd6:=(AT6.out _ _ Ic).2))
       all_goals
        have D2:=Hx (λw7 e=>D1.out.push (w7:=w7) H3.out LT.out HW.out (uy ((BY.out.trans (Below.refl _ _).drew).alloc BY.out.size _) Ic) IH (Jl.imp id λq=>by rw[q]; simp; have:=BY.out.size; omega) e);clear IH Ic Jl JG a2;go_wp2;go_roundw
        case rel=>exact⟨j+1,_,_,_,by omega,by go_num,D2.out _ rfl⟩
        case measure=>simp[RowKit.intOf]; omega
      .have q:¬ (2:Int)<=(N:Int):=by omega
       have HY:=Hs (cT tag tt (T1.wait[j]'lB)=some y) (by
        rw[HX.out];unfold cT
        rw[if_pos HYY.out.1,HYY.out.2,if_neg λe=>h2 (CN.out.1 e)])
       have Ie:=Hx (own_below D1.out.left BY.out);have z0:=BY.out.size;have z1:=D1.out.ks.size;clear h2;go_wp2_with (at_builtin; refine wpList_append_own _ rfl _ _ 75 rfl w3.heap.size 126 i1 _ 4 16 Tryz.underlying75 hj0 Lm MV hj3 rfl (by decide) _ _ _ rfl (Ie.out.alloc _) ⟨wy.heap.size,0,none⟩ 1 1 [.int .i64 tag,.bool g0,.bool g1,.bool g2] rfl rfl (World.news_of_block (heap_alloc_new _ _)) YO.out ?c3 ?c4 ?c5 ?_)
       case c3=>unfold maxLen; omega
       case c4=>omega
       case c5=>first | omega | (simp; omega)
       intro v' wq jZ Il _;have D2:=Hx (D1.out.snoc H3.out LT.out HY.out (uy (BY.out.alloc BY.out.size _) Il) (by rw[YR.out]; exact jZ));clear jZ Il;go_wp2;go_roundw
       case rel=>exact⟨j+1,_,_,_,by omega,by go_num,D2.out⟩
       case measure=>simp[RowKit.intOf]; omega
   .have q:(x.tag == tag)=false:=by simp[hxt]
    have HY:=Hs (cT tag tt (T1.wait[j]'lB)=some x) (by rw[HX.out]; exact if_neg hxt);have Ie:=Hx (own_below D1.out.left BX.out);have z0:=BX.out.size;have z1:=D1.out.ks.size;go_wp2_with (at_builtin; refine wpList_append_own _ rfl _ _ 75 rfl w3.heap.size 126 i1 _ 4 16 Tryz.underlying75 hj0 Lm MV hj3 rfl (by decide) _ _ _ rfl (Ie.out.alloc _) ⟨wx.heap.size,0,none⟩ 1 1 x.row rfl rfl (World.news_of_block (heap_alloc_new _ _)) (row_one _) ?c3 ?c4 ?c5 ?_)
    case c3=>unfold maxLen; omega
    case c4=>omega
    case c5=>simp; omega
    intro v' wq jZ Il _;have D2:=Hx (D1.out.snoc H3.out LT.out HY.out (uy (BX.out.alloc BX.out.size _) Il) jZ);clear jZ Il;go_wp2;go_roundw
    case rel=>exact⟨j+1,_,_,_,by omega,by go_num,D2.out⟩
    case measure=>simp[RowKit.intOf]; omega
  .have HJ:=Hx (show j=T1.wait.length by omega)
   obtain⟨la,n,lc,rfl⟩:∃la n lc,u10=.slice la n lc:=by
    obtain⟨-,h2 | ⟨g,c,cur,e,-⟩⟩:=D1.out.left
    .exact⟨_,_,_,h2.1⟩
    .exact⟨_,_,_,e⟩
   obtain⟨-,hf⟩:=aY D1.out.row;have f13:=hf 13;have FIN:=Hx (λw' e=>sY.fin (w':=w') H3.out ⟨tt,a,c,tag⟩ WS.out (HJ.out▸D1.out) e);clear hf;go_wp2;exact bodyPost_ret (v:=.tuple #[.bool true,.int .i64 0]) (by simp[results,Tryz.results13,go_sem]) rfl ⟨rfl,(dS.of H3.out K3.out).trans (FIN.out _ rfl)⟩
end
section
variable {w0 w w':World} {n D T:Nat} {t:Tg} {Y:Nat->Prop}
theorem bR.both(h:bR w0 n D T t Y w)(kp:ac Y w w'):bR w0 n D T t (bL Y w w') w':=by
 obtain⟨m,hm⟩:∃m:World,m={ w' with heap:=w.heap ++ w'.heap.extract w.heap.size w'.heap.size }:=⟨_,rfl⟩
 have hz:=kp.size
 have mz:m.heap.size=w'.heap.size:=by rw[hm]; simp; omega
 have lo:∀k,k<w.heap.size->m.heap[k]?=w.heap[k]?:=λk hk=>by rw[hm]; simp[Array.getElem?_append,hk]
 have hi:∀k,w.heap.size<=k->m.heap[k]?=w'.heap[k]?:=λk hk=>by
  rw[hm]
  rcases Nat.lt_or_ge k w'.heap.size with q | q
  .have e:w.heap.size+(k - w.heap.size)=k:=by omega
   simp[Array.getElem?_append,Nat.not_lt.2 hk,Array.getElem?_extract,e];omega
  .rw[Array.getElem?_eq_none q,Array.getElem?_eq_none];simp;omega
 have b:Below w.heap.size w m:=⟨by rw[hm]; exact kp.os,by rw[hm]; exact kp.tape,by rw[hm]; exact kp.output,by omega,λk hk=>lo k hk⟩
 have k2:ac (bL Y w w') m w':=⟨by rw[hm],by rw[hm],by rw[hm],by omega,λk hk hl=>by
  rcases Nat.lt_or_ge k w.heap.size with q | q
  .exact(kp.block k (λe=>hk (.inl e)) q).trans (lo k q).symm
  .exact(hi k q).symm⟩
 exact((h.more b).less λc e=>e.imp id λe=>⟨e.1,by omega⟩).put k2
theorem o7{b:Nat}(e:w'.heap[b]?=w.heap[b]?)(hb:b<w.heap.size):b<w'.heap.size:=by rw[Array.getElem?_eq_getElem hb]at e;exact(Gl e)
end
section
variable {Y:Nat->Prop} {w w' w1:World} {M n:Nat} {m:Dm} {t:Tg} {S:aw->Prop} {B:Int}
theorem bO.same(h:bO Y w M m t)(sm:Same Y w w'):bO Y w' M m t:=by
 have ho:∀b,m.own M b->w'.heap[b]?=w.heap[b]?:=λb e=>sm b (h.own b e)
 refine⟨(ho M (.inl rfl)).trans h.blk,(ho _ (.inr (.inl rfl))).trans h.grp,h.ok,h.len,λi hi=>?_,λk=>⟨λi hi=>?_,(h.box k).len,(h.box k).cap,(h.box k).eq⟩,
  bZ h.wait λb o e=>ho b (.inr (.inr (.inl ⟨o,e⟩))),bZ h.fly λb o e=>ho b (.inr (.inr (.inr (.inl ⟨o,e⟩)))),bZ h.done λb o e=>ho b (.inr (.inr (.inr (.inr ⟨o,e⟩)))),h.own,h.eq,h.cnt⟩
 .obtain⟨b,o,e,hx,hb,c1,c2⟩:=h.str i hi;have q:=sm b hx.1;exact⟨b,o,e,hx,o7 q hb,(World.cell?_of_block (w:=w) (a:=⟨b,o+i*2,none⟩) q).trans c1,(World.cell?_of_block (w:=w) (a:=⟨b,o+i*2+1,none⟩) q).trans c2⟩
 .obtain⟨b,o,e,hx,hb,hc⟩:=(h.box k).ints i hi;have q:=sm b hx.1;exact⟨b,o,e,hx,o7 q hb,(World.cell?_of_block (w:=w) (a:=⟨b,o+i,none⟩) q).trans hc⟩
theorem mH.same'(h:mH Y w M t)(sm:Same Y w w'):mH Y w' M t:=by obtain⟨m,h⟩:=h; exact⟨m,h.same sm⟩
theorem bL.up(hs:w1.heap.size<=w'.heap.size):∀b,bL Y w w1 b->bL Y w w' b:=λ_ e=>e.imp id λe=>⟨e.1,Nat.lt_of_lt_of_le e.2 hs⟩
theorem Ez(i:Int)(h:mH Y w M t)(hl:t.fly.length<=1000) : Calls Tryz.prog 15 #[.pointer (some ⟨M,0,none⟩),.int .i64 i] w λe w'=>e=.returned (.int .i64 (t.lose i).2)/\dS Y w M (t.lose i).1 w':=by
 obtain⟨m,h⟩:=h;refine(zv i h hl).mono ?_;rintro e w' ⟨rfl,⟨m',h',-⟩,k⟩;exact⟨rfl,dS.of h' (k.mono λb e=>e▸h.own M (.inl rfl))⟩
theorem E5(i:Int)(up:Bool)(h:mH Y w M t) : Calls Tryz.prog 17 #[.pointer (some ⟨M,0,none⟩),.int .i64 i,.bool up] w λe w'=>e=.returned (.int .i64 (t.up i up).2)/\dS Y w M (t.up i up).1 w':=by
 obtain⟨m,h⟩:=h;refine(wG i up h).mono ?_;rintro e w' ⟨rfl,h',k⟩;exact⟨rfl,dS.of (h'.mono λb e=>.inl e) (k.mono λb e=>e▸h.own _ (.inr (.inl rfl)))⟩
theorem Ew(i:Int)(h:mH Y w M t) : Calls Tryz.prog 19 #[.pointer (some ⟨M,0,none⟩),.int .i64 i] w λe w'=>e=.returned (.int .i64 (t.sync i).2)/\dS Y w M (t.sync i).1 w':=by
 obtain⟨m,h⟩:=h;refine(zr i h).mono ?_;rintro e w' ⟨rfl,h',k⟩;exact⟨rfl,dS.of (h'.mono λb e=>.inl e) (k.mono λb e=>e▸h.own _ (.inr (.inl rfl)))⟩
theorem FT(c:bG)(h:mH Y w M t)(ti:TI n S B t)(hB:B+2<1000000000000000)(hs:c.data.size<=9223372036854775807/\c.want.size<=9223372036854775807) : Calls Tryz.prog 10 #[.pointer (some ⟨M,0,none⟩),eX c] w λe w'=>e=.returned (zQ (t.ask n c).2)/\dS Y w M (t.ask n c).1 w':=by
 obtain⟨m,h⟩:=h;exact CO c h ti hB hs
theorem wL(i:Int)(b:Bool)(h:mH Y w M t)(ti:TI n S B t)(hB:B<=1000000)(wi:WI t) : Calls Tryz.prog 13 #[.pointer (some ⟨M,0,none⟩),.int .i64 i,.bool b] w λe w'=>e=.returned (.tuple #[.bool (t.deliver i b).2.1,.int .i64 (t.deliver i b).2.2])/\dS Y w M (t.deliver i b).1 w':=by
 obtain⟨m,h⟩:=h;exact sG i b h ti.fl (λx hx=>by have:=ti.msg x hx; omega) ti.wl ti.ws (λx hx=>(ti.wt x hx).2.2) wi (by have:=ti.t0; omega)
theorem ud(ti:TI n S B t)(h:t.isReady=false):¬ 2<=(t.g.mem t.k.ep).length:=by rw[ti.isReady]at h;simpa using h
theorem jG(ti:TI n S B t)(h:t.isReady=true):2<=(t.g.mem t.k.ep).length:=by rw[ti.isReady]at h;simpa using h
theorem Ci(h:mH Y w M t)(ti:TI n S B t)(hB:B+2<1000000000000000) : Calls Tryz.prog 21 #[.pointer (some ⟨M,0,none⟩)] w λe w'=>e=.returned (.int .i64 (t.power n).2)/\dS Y w M (t.power n).1 w':=by
 obtain⟨m,h⟩:=h;have e1:=ti.e1;obtain⟨n1,n2,n3⟩:=fW ti hB ti.good.lost;have rd:=ti.ready;refine(wH h (by omega)).mono ?_;unfold Tg.power;dsimp only;rintro e w' (⟨r,rfl,h',k⟩ | ⟨r,r2,rfl,h',k⟩ | ⟨r,r2,rfl,⟨m',h',-⟩,k⟩)
 .rw[n2 (ud ti r),if_pos (by simp)];rw[rd]at h';exact⟨rfl,dS.of (h'.mono λb e=>.inl e) (k.mono λb e=>e▸h.own _ (.inr (.inl rfl)))⟩
 .rw[n3 (jG ti r) r2,if_pos (by simp)];rw[rd]at h';exact⟨rfl,dS.of (h'.mono λb e=>.inl e) (k.mono λb e=>e▸h.own _ (.inr (.inl rfl)))⟩
 .obtain⟨f1,d,f2,-⟩:=n1 (jG ti r) r2;rw[if_neg (by simp[f1]),f2];refine⟨rfl,dS.of (m':=m') ?_ (k.mono λb e=>e.elim (λe=>e▸h.own M (.inl rfl)) λe=>e▸h.own _ (.inr (.inl rfl)))⟩;have:=h'.setK ⟨d,t.k.num+2,t.k.ep+1,t.k.s.lost⟩ rfl rfl;unfold Tg.nexted at this;rw[ti.qi.fence]at this;exact this
theorem CG(h:bO Y w M m t)(ti:TI n S B t)(hB:B+2<1000000000000000) :
  Calls Tryz.prog 7 #[dh t.k.s m.sa m.sc,.int .i64 t.k.ep,.pointer (some ⟨m.G,0,none⟩)] w λe w'=>ac (·=m.G) w w'/\((Tg.new n t.k t.g).2=0->∃M',e=.returned (.tuple #[.pointer (some ⟨M',0,none⟩),.int .i64 0])/\dS Y w M' (Tg.new n t.k t.g).1 w') /\
   ((Tg.new n t.k t.g).2≠0->e=.returned (.tuple #[.pointer none,.int .i64 (Tg.new n t.k t.g).2])/\dS Y w M t w'):=by
 have e1:=ti.e1;obtain⟨n1,n2,n3⟩:=fk ti hB;have rd:(Tg.start t.k t.g).ready=Tg.start t.k t.g:=congrArg (λu:Tg=>Tg.start t.k u.g) ti.ready;have OG:=h.own m.G (.inr (.inl rfl));refine(mY t.k t.g m.G m.sa m.sc h.grp h.ok OG (by omega) h.len (h.str.to (Nat.le_refl _) λb e _=>⟨rfl,e.1,λq=>e.2 (.inr (.inl q))⟩)).mono ?_
 have same:∀w',w'.heap[m.G]?=some (.cells (Tg.start t.k t.g).ready.g.arr 97 (0,0))->ac (·=m.G) w w'->dS Y w M t w':=λw' hg k=>by rw[rd]at hg;have:=h.setG (g:=t.g) ⟨k,h.ok,hg⟩;exact dS.of (this.mono λb e=>.inl e) (k.mono λb e=>e▸OG)
 rintro e w' (⟨r,rfl,hg,k⟩ | ⟨r,r2,rfl,hg,k⟩ | ⟨r,r2,M',rfl,-,⟨m',h'⟩,k⟩)
 .have f:=n2 (ud ti (show t.isReady=false from r));exact⟨k,λq=>(by rw[f]at q; cases q),λ_=>⟨by rw[f],same w' hg k⟩⟩
 .have f:=n3 (jG ti (show t.isReady=true from r)) r2;exact⟨k,λq=>(by rw[f]at q; cases q),λ_=>⟨by rw[f],same w' hg k⟩⟩
 .obtain⟨f1,d,f2,-⟩:=n1 (jG ti (show t.isReady=true from r)) r2;refine⟨k,λ_=>⟨M',rfl,dS.of (m':=m') ?_ (k.mono λb e=>e▸OG)⟩,λq=>absurd f1 q⟩;rw[f2];have:=h'.setK ⟨d,t.k.num+2,t.k.ep+1,t.k.s⟩ rfl rfl;unfold Tg.nexted at this;have hf:(Tg.start t.k t.g).g.fence (Tg.start t.k t.g).k.ep=t.g:=ti.qi.fence;rw[hf]at this;exact this
end
section
variable {n:Nat} {S:aw->Prop} {B:Int} {t:Tg}
theorem WI.eq{u:Tg}(h:WI t)(e:u.wait=t.wait):WI u:=λx hx=>h x (e▸hx)
theorem WI.nil{u:Tg}(e:u.wait=[]):WI u:=λx hx=>by rw[e]at hx; cases hx
theorem WI.ask(h:WI t)(ti:TI n S B t)(hB:B+2<1000000000000000)(c:bG):WI (t.ask n c).1:=by
 have o:=rn ti hB c
 generalize (t.ask n c).1=u at o
 generalize (t.ask n c).2=a at o
 cases o with
 | bad=>exact h
 | told=>exact h.eq rfl
 | order _ _ _ _ _ o =>
  cases o with
  | bad=>exact h
  | less=>exact WI.nil rfl
  | busy=>exact h
  | more=>exact h.eq rfl
 | block _ _ _ _ _ o =>
  cases o with
  | no=>exact h
  | busy=>exact h
  | read=>exact h.eq rfl
  | refused=>exact h.eq rfl
  | full _ _ u hu =>
   rcases hu with⟨-,rfl⟩ | ⟨-,rfl,-⟩
   .exact h
   .exact h.eq rfl
  | write _ _ u hu =>
   have hw:u.wait=t.wait:=by rcases hu with⟨-,rfl⟩ | ⟨-,rfl,-⟩<;>rfl
   intro x hx
   rcases List.mem_append.1 hx with q | q
   .exact h x (hw▸q)
   .rw[List.mem_singleton]at q;subst q;intro y hy;cases hy
theorem WI.came(h:WI t)(m:Ms)(hm:0<=m.tt/\m.tt<3):WI (t.came m):=by
 have pt:∀x∈t.wait,∀y∈(x.put m.tt).hv,0<=y/\y<3:=λx hx y hy=>by
  unfold Wt.put at hy;dsimp only at hy
  split at hy
  .exact h x hx y hy
  .rcases List.mem_append.1 hy with q | q
   .exact h x hx y q
   .rw[List.mem_singleton]at q;subst q;exact hm
 unfold Tg.came
 split
 .exact h
 .split
  .exact λx hx=>h x (List.mem_filter.1 hx).1
  .intro x hx;obtain⟨z,hz,rfl⟩:=List.mem_map.1 hx
   split
   .exact pt z hz
   .exact h z hz
theorem WI.deliver(h:WI t)(ti:TI n S B t)(i:Int)(b:Bool):WI (t.deliver i b).1:=by
 unfold Tg.deliver
 split
 .exact h
 rename_i hi
 have hm:0<=(t.fly.getD i.toNat ⟨0,0,aw.zero,0⟩).tt/\(t.fly.getD i.toNat ⟨0,0,aw.zero,0⟩).tt<3:=by have:=ti.msg _ (xJ hi);omega
 dsimp only
 split
 .refine WI.came ?_ _ hm;exact λx hx=>h x hx
 .exact h
theorem WI.power(h:WI t)(ti:TI n S B t)(hB:B+2<1000000000000000):WI (t.power n).1:=by
 obtain⟨n1,n2,n3⟩:=fW ti hB ti.good.lost;unfold Tg.power;dsimp only;by_cases hm:2<=(t.g.mem t.k.ep).length
 .by_cases he:t.k.ep=1000000
  .rw[n3 hm he]; exact h
  .obtain⟨e1,d,e2,-⟩:=n1 hm he;rw[if_neg (by simp[e1]),e2];exact WI.nil rfl
 .rw[n2 hm]; exact h
theorem WI.lose(h:WI t)(i:Int):WI (t.lose i).1:=by unfold Tg.lose; split<;>exact h
theorem WI.up(h:WI t)(i:Int)(b:Bool):WI (t.up i b).1:=by unfold Tg.up; split<;>exact h
theorem WI.sync(h:WI t)(i:Int):WI (t.sync i).1:=by unfold Tg.sync; (repeat' split)<;>exact h
theorem FY(ti:TI n S B t)(hB:B+2<1000000000000000)(c:bG):0<=(t.ask n c).2.err:=by
 have o:=rn ti hB c
 generalize (t.ask n c).1=u at o
 generalize (t.ask n c).2=a at o
 cases o with
 | bad=>exact uJ c
 | told=>exact Int.le_refl _
 | order _ _ _ _ _ o =>
  cases o with
  | bad _ e=>exact e▸AP _ _
  | less=>exact Int.le_refl _
  | busy f hf=>rcases hf with rfl | rfl<;>decide
  | more=>exact Int.le_refl _
 | block _ _ _ _ _ o =>
  cases o with
  | no=>decide
  | busy=>decide
  | read=>exact Int.le_refl _
  | refused _ _ _ f hf=>rcases hf with⟨-,rfl⟩ | ⟨-,-,rfl⟩<;>decide
  | full=>decide
  | write=>exact Int.le_refl _
theorem wK(t:Tg)(i:Int)(b:Bool):0<=(t.deliver i b).2.2:=by unfold Tg.deliver; dsimp only; (repeat' split)<;>(dsimp only; omega)
theorem Ec(t:Tg)(i:Int):0<=(t.lose i).2:=by unfold Tg.lose; split<;>(dsimp only; omega)
theorem EN(t:Tg)(i:Int)(b:Bool):0<=(t.up i b).2:=by unfold Tg.up; split<;>(dsimp only; omega)
theorem DC(t:Tg)(i:Int):0<=(t.sync i).2:=by unfold Tg.sync; (repeat' split)<;>(dsimp only; omega)
theorem AL(ti:TI n S B t)(hB:B+2<1000000000000000):0<=(t.power n).2:=by
 obtain⟨n1,n2,n3⟩:=fW ti hB ti.good.lost;unfold Tg.power;dsimp only;by_cases hm:2<=(t.g.mem t.k.ep).length
 .by_cases he:t.k.ep=1000000
  .rw[n3 hm he]; show(0:Int)<=6; decide
  .obtain⟨e1,d,e2,-⟩:=n1 hm he;rw[if_neg (by simp[e1])];exact Int.le_refl _
 .rw[n2 hm]; show(0:Int)<=7; decide
theorem Fq(ti:TI n S B t)(hB:B+2<1000000000000000):0<=(Tg.new n t.k t.g).2:=by
 obtain⟨n1,n2,n3⟩:=fk ti hB;by_cases hm:2<=(t.g.mem t.k.ep).length
 .by_cases he:t.k.ep=1000000
  .rw[n3 hm he]; decide
  .rw[(n1 hm he).1]; exact Int.le_refl _
 .rw[n2 hm]; decide
end
theorem fL(f:Int)(w:World)(hf:0<=f):Calls Tryz.prog 11 #[bg f,.int .i64 f] w λe w'=>e=.returned (.bool true)/\Below w.heap.size w w' :=
 (Au f f w hf hf).mono λ_ _ ⟨h1,h2⟩=>⟨h1.trans (by simp),h2⟩
theorem je(w:World):Calls Tryz.prog 11 #[.nilIface,.int .i64 0] w λe w'=>e=.returned (.bool true)/\Below w.heap.size w w':=aH▸fL 0 w (by omega)
theorem targets_law(d:Dk):(1:Int)∈((Gm d).ask 10 uM).1.done:=by
 have h:decide ((1:Int)∈((Gm d).ask 10 uM).1.done)=true:=by kernel_rfl
 exact of_decide_eq_true h
theorem targets_any(w:World)(tt:Tabs w):Calls Tryz.prog 4 #[] w λe w'=>e=.returned (.bool true)/\Below w.heap.size w w':=by
 have TT:=Hx tt;have OP:=Hx (oZ w tt);clear tt;go_enter Tryz.func4,Tryz.ntmps4
 go_wp2_with fail;refine OP.out.mono ?_;rintro e w1 ⟨D,T,d,rfl,h1,j1⟩;obtain⟨l1,l2,l3,l4⟩:=xY d;obtain⟨S2,-,j2⟩:=j1.ask (by omega) EF;have j3:=j2.deliver 0 false;have j4:=j3.deliver 0 false;have A1:=Hx (od w w1 10 D T (Ah d) (λ_=>False) _ _ EF h1 j1 (by omega) (by decide) TT.out);have A2:=Hx (λw' h=>iD w w' 10 D T (GU d) (λ_=>False) 0 false h j2.ti.tgd);have A3:=Hx (λw' h=>iD w w' 10 D T (GQ d) (λ_=>False) 0 false h j3.ti.tgd);have A4:=Hx (λw' h=>od w w' 10 D T (Gm d) (λ_=>False) _ _ uM h j4 (by omega) (by decide) TT.out);have A5:=Hx (λw' h=>qs w w' 10 D T ((Gm d).ask 10 uM).1 (λ_=>False) 1 h);rw[decide_eq_true (targets_law d)]at A5;rw[l1]at A1;rw[l2]at A2;rw[l3]at A3;rw[l4]at A4;clear h1 j1 j2 j3 j4 l1 l2 l3 l4 OP;go_wp2_with fail;refine A1.out.mono ?_;rintro e w2 ⟨rfl,h2,-⟩;have A22:=Hx (A2.out w2 h2);clear h2 A1 A2;rw[aH];go_wp2_with fail;refine A22.out.mono ?_;rintro e w3 ⟨rfl,h3,-⟩;have A33:=Hx (A3.out w3 h3);clear h3 A22 A3;rw[aH];go_wp2_with fail;refine A33.out.mono ?_;rintro e w4 ⟨rfl,h4,-⟩;have A44:=Hx (A4.out w4 h4);clear h4 A33 A4;rw[aH];go_wp2_with fail;refine A44.out.mono ?_;rintro e w5 ⟨rfl,h5,-⟩;have H5:=Hx h5;clear h5 A44;rw[aH];go_wp2_with fail;refine(je _).mono ?_;rintro e w6 ⟨rfl,b6⟩;go_wp2_with fail;refine(je _).mono ?_;rintro e w7 ⟨rfl,b7⟩;go_wp2_with fail;refine(je _).mono ?_;rintro e w8 ⟨rfl,b8⟩;go_wp2_with fail;refine(je _).mono ?_;rintro e w9 ⟨rfl,b9⟩;have H9:=Hx ((((H5.out.over b6).over b7).over b8).over b9);clear b6 b7 b8 b9 H5;go_wp2_with fail;refine(A5.out w9 H9.out).mono ?_;rintro e w10 ⟨rfl,rfl⟩;have P:=Hx H9.out.below;clear A5;go_wp2;go_ret;exact⟨rfl,P.out⟩
