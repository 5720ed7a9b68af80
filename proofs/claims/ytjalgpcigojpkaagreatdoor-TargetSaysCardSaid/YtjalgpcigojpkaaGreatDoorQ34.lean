import Derived.Test.YtjalgpcigojpkaaGreatDoorQ33
set_option maxRecDepth 99999
set_option maxHeartbeats 99999999
namespace Go.Proofs.YtjalgpcigojpkaaGreatDoor
section
open Go.RowKit Go.Sort
structure Hn (t:Tg):Prop where
 fl:t.fly.length<=1000
 msg:∀m∈t.fly,0<=m.tt/\m.tt<3/\0<=m.at'/\m.at'<8
 ws:t.wait.Pairwise (λa b=>a.tag<b.tag)
theorem rI{w:World}{A:Nat}{v0 v1 v2 v3 v4 v5:Value}{E:TypeId}(h:w.heap[A]?=some (.cells #[v0,v1,v2,v3,v4,v5] E (0,0))):w.cell? ⟨A,0,none⟩=some v0/\w.cell? ⟨A,1,none⟩=some v1/\w.cell? ⟨A,2,none⟩=some v2/\w.cell? ⟨A,3,none⟩=some v3/\w.cell? ⟨A,4,none⟩=some v4/\w.cell? ⟨A,5,none⟩=some v5:=by simp[World.cell?,h]
theorem bR.setG{w0 w w':World}{n D T:Nat}{t:Tg}{Y:Nat->Prop}(h:bR w0 n D T t Y w){g:Gp}(hg:g.ok):w'=w.setCells T 1 g.arr.toList->bR w0 n D T { t with g:=g } Y w'/\Same Y w w':=by rintro rfl;obtain⟨X,m,ki,tb,lo,hy⟩:=h;have q:=cV.of ki tb lo hy (tb.setG hg).2 (tb.setG hg).1 (t':={ t with g:=g }) rfl;exact⟨q.1,q.2.1⟩
section
variable (w0 w:World) (n D T:Nat) (t:Tg) (Y:Nat->Prop)
theorem iD(i:Int)(stays:Bool)(h:bR w0 n D T t Y w)(hd:Hn t) : Calls Tryz.prog 12 #[.pointer (some ⟨T,0,none⟩),.int .i64 i,.bool stays] w λe w'=>e=.returned (.tuple #[.bool (t.deliver i stays).2.1,bg (t.deliver i stays).2.2])/\bR w0 n D T (t.deliver i stays).1 Y w'/\Same Y w w':=by
 have HH:=Hx h;have HD:=Hx hd;obtain⟨X,m,ki,tb,lo,hy⟩:=h;have c0:=(aG tb.blk tb.ok).1.2.2.2.2.2.2.2.2.1
 have hT:=(Gl tb.blk)
 have hfl:=hd.fl;by_cases h1:i<0\/(t.fly.length:Int)<=i
 .have E:=Hs (t.deliver i stays=(t,false,8)) (by unfold Tg.deliver; rw[if_pos h1]);rw[E.out];clear ki tb lo hy hd
  rcases h1 with h1 | h1
  .go_enter Tryz.func12,Tryz.ntmps12
   go_wp2;exact bodyPost_ret (v:=.tuple #[.bool false,.iface 108 (.int .i64 8)]) (by simp[results,Tryz.results12,go_sem]) rfl ⟨rfl,HH.out,λ_ _=>rfl⟩
  .have h2:¬ i<0:=by omega
   go_enter Tryz.func12,Tryz.ntmps12
   go_wp2;exact bodyPost_ret (v:=.tuple #[.bool false,.iface 108 (.int .i64 8)]) (by simp[results,Tryz.results12,go_sem]) rfl ⟨rfl,HH.out,λ_ _=>rfl⟩
 obtain⟨k,rfl⟩:∃k:Nat,i=k:=⟨i.toNat,by omega⟩
 have hk:k<t.fly.length:=by omega
 obtain⟨M,hM⟩:=Nm (t.fly[k]);have hm:=hd.msg M (hM▸List.getElem_mem hk)
 have cells:∃g,m.fa=some ⟨g,0,none⟩/\(w.cell? ⟨g,k*6,none⟩=some (.int .i64 M.tt)/\w.cell? ⟨g,k*6+1,none⟩=some (.int .i64 M.at')/\w.cell? ⟨g,k*6+2,none⟩=some (.int .i64 M.c.e)/\w.cell? ⟨g,k*6+3,none⟩=some (.int .i64 M.c.n)/\w.cell? ⟨g,k*6+4,none⟩=some (.string M.c.d)/\w.cell? ⟨g,k*6+5,none⟩=some (.int .i64 M.tag)):=by
  obtain⟨-,h2 | ⟨g,cap',cur,e1,e2,e3,-⟩⟩:=id tb.fly
  .exact absurd h2.2 (by omega)
  obtain⟨e4,e5⟩:m.fa=some ⟨g,0,none⟩/\m.fc=cap':=by simpa using e1
  have hr:=tb.fly;rw[e4]at hr
  have c:∀j v,j<6->t.fly[k].row[j]?=some v->w.cell? ⟨g,k*6+j,none⟩=some v:=λj v hj hv=>by
   have:=dC.cells hr (k*6+j) v (by rw[vP hk j hj,hv])
   rwa [Addr.add_lit,Nat.zero_add]at this
  rw[hM]at c;exact⟨g,e4,c 0 _ (by omega) rfl,c 1 _ (by omega) rfl,c 2 _ (by omega) rfl,c 3 _ (by omega) rfl,c 4 _ (by omega) rfl,c 5 _ (by omega) rfl⟩
 obtain⟨g8,JK,d0,d1,d2,d3,d4,d5⟩:=cells;rw[JK]at c0
 have E:=Hs (t.deliver (k:Int) stays=if t.g.delivers M.tt.toNat M.c then(Tg.came { t with fly:=if stays then t.fly else t.fly.eraseIdx k,g:=t.g.deliver M.tt.toNat M.at'.toNat M.c } M,true,0) else({ t with fly:=if stays then t.fly else t.fly.eraseIdx k,g:=t.g.deliver M.tt.toNat M.at'.toNat M.c },false,0)) (by
  unfold Tg.deliver;rw[if_neg h1,Int.toNat_natCast]
  have e:t.fly.getD k ⟨0,0,aw.zero,0⟩=M:=by simp[hk,hM]
  rw[e])
 obtain⟨R,hR⟩:=Nm (t.deliver (k:Int) stays);rw[hR]at E ⊢;obtain⟨mt,ma,mc,tag⟩:=M;dsimp only at d0 d1 d2 d3 d4 d5 hm E
 obtain⟨tt,rfl⟩:∃tt:Nat,mt=tt:=⟨mt.toNat,by omega⟩
 obtain⟨at8,rfl⟩:∃at8:Nat,ma=at8:=⟨ma.toNat,by omega⟩
 have htt:tt<3:=by omega
 have Iw:at8<8:=by omega
 simp only[Int.toNat_natCast]at E
 have q1:¬ (k:Int)<0:=by omega
 have q2:¬ (t.fly.length:Int)<=(k:Int):=by omega
 have q3:IntKind.i64.wrap ((k:Int)+1)=((k+1:Nat):Int):=by rw[IntWalk.i64_in _ (by omega)]; omega
 obtain⟨j,hj⟩:=Nm (k+1);rw[hj]at q3;have HJ:=Hx hj.symm;obtain⟨w1,pX⟩:=Nn (w.alloc (.cells #[.int .i64 (tt:Int),.int .i64 (at8:Int),.int .i64 mc.e,.int .i64 mc.n,.string mc.d,.int .i64 tag] 124));have B1:=Hs (Below w.heap.size w w1) (pX▸ay w _);have R1:=Hs (w1.heap[w.heap.size]?=some (.cells #[.int .i64 (tt:Int),.int .i64 (at8:Int),.int .i64 mc.e,.int .i64 mc.n,.string mc.d,.int .i64 tag] 124 (0,0))) (pX▸heap_alloc_new w _)
 obtain⟨Z,hZ⟩:∃Z:Nat->Prop,Z=λc=>Y c\/(w.heap.size<=c/\c<w1.heap.size):=⟨_,rfl⟩
 have H1:=Hs (bR w0 n D T t Z w1) (hZ▸HH.out.more B1.out);have ZY:=Hs (∀b,Y b->Z b) (λb hb=>hZ▸Or.inl hb);have ZB:=Hs (Z w.heap.size) (hZ▸Or.inr ⟨Nat.le_refl _,by rw[pX]; simp⟩);have SY1:=Hs (Same Y w w1) (λb hb=>B1.out.block b (HH.out.lt_y b hb));have HF:=Hs (w1.cell? ⟨T,86,none⟩=some (.slice (some ⟨g8,0,none⟩) t.fly.length m.fc)) ((B1.out.cell (p:=⟨T,86,none⟩) hT).trans c0);have CL:=Hx (mC w0.heap.size t.fly m.fa m.fc w1 hd.fl (aV tb.fly (λb e=>B1.out.block b (ki.lt b (dW tb e).1))));rw[JK]at CL;have CT:=Hx (λw' (b:Below w1.heap.size w1 w')=>(aG ((b.block T (Nat.lt_of_lt_of_le hT B1.out.size)).trans ((B1.out.block T hT).trans tb.blk)) tb.ok).2.2.2.2.2.2.2.2.2.1);have CC:=Hx (λw' (b:Below w1.heap.size w1 w')=>(b.cell (p:=⟨T,86,none⟩) (Nat.lt_of_lt_of_le hT B1.out.size)).trans HF.out);obtain⟨F,hF⟩:=Nm (if stays then t.fly else t.fly.eraseIdx k);rw[hF]at E;have HFE:=Hx hF;obtain⟨NS,hNS⟩:=Nm (!stays);have HNS:=Hx hNS;have OKG:=Hx tb.ok;clear ki tb lo hy h1 hR hZ hd hm hj hM hF hk JK
 have hk:=show k<t.fly.length by omega
 go_enter Tryz.func12,Tryz.ntmps12
 go_upto_region 4 with fail;rw[<-pX];clear pX d0 d1 d2 d3 d4 d5 c0 hT;go_upto_if 33 with fail;go_cut [8] (λv wx=>v=.pointer (some ⟨w.heap.size,0,none⟩)/\bR w0 n D T { t with fly:=F } Z wx/\Same Z w1 wx)
 case first =>
  cases NS
  .have hs:stays=true:=by
    have:=HNS.out;cases stays
    .cases this
    .rfl
   have P:=Hs (bR w0 n D T { t with fly:=F } Z w1) (by
    rw[<-HFE.out,hs]
    exact H1.out)
   clear hs hNS;go_wp2_with fail;go_meet;exact⟨rfl,P.out,λ_ _=>rfl⟩
  .have hs:stays=false:=by
    have:=HNS.out;cases stays
    .rfl
    .cases this
   have HFF:=Hs (t.fly.eraseIdx k=F) (by
    have:=HFE.out;rw[hs]at this
    exact this)
   have c1:=HF.out;clear hs hNS;go_wp2_with fail;refine CL.out.mono ?_;rintro e w2 ⟨v,rfl,o2,b2⟩
   have hv:∃a cap,v=.slice a t.fly.length cap:=by
    obtain⟨-,h2 | ⟨g,cap,cur,e1,-⟩⟩:=o2
    .exact absurd h2.2 (by omega)
    .exact⟨_,_,e1⟩
   obtain⟨a,cap,rfl⟩:=hv;have DEL:=Hx (pG w1.heap.size t.fly a cap k j w2 HD.out.fl o2 hk HJ.out);have B2:=Hx b2;clear b2 o2 CL;go_wp2_with fail;refine DEL.out.mono ?_;rintro e w3 ⟨g,-,hg,hgl,rfl,o3,k3⟩;have B3:=Hs (Below w1.heap.size w1 w3) (B2.out.trans (k3.below B2.out.size (λc q=>by rw[q]; exact hg)));have LE:=Hs ((t.fly.eraseIdx k).length=t.fly.length - 1) (by rw[List.length_eraseIdx,if_pos hk]);have P:=Hx (H1.out.newFly B3.out g cap (t.fly.eraseIdx k) hg o3);rw[LE.out,HFF.out]at P;have f3:=CT.out w3 B3.out;have c3:=CC.out w3 B3.out;clear o3 k3 DEL;go_wp2_with fail;go_meet;exact⟨rfl,P.out.1,P.out.2.1⟩
 case rest =>
 obtain⟨wb,rfl⟩:∃w2:World,w2=wc:=⟨_,rfl⟩
 obtain⟨rfl,hb,hs⟩:=hcut;have HB:=Hx hb;have SB:=Hx hs;clear CL CT CC HF H1 hNS HNS HFE hb hs;obtain⟨A8,hA8⟩:=Nm w.heap.size;have RB:=Hx ((SB.out _ ZB.out).trans R1.out);rw[hA8]at RB ZB ⊢
 have Oi:=(Gl RB.out)
 clear hA8 R1;have SYB:=Hs (Same Y w wb) (SY1.out.trans (λb hb=>SB.out b (ZY.out b hb)));obtain⟨X2,m2,ki,tb,lo,hy⟩:=HB.out
 have LTT:=(Gl tb.blk)
 have ZG:=Hx (Gp.size tb.ok);have RG:=Hx (λw' (h:Below wb.heap.size wb w')=>(show w'.rangeAt T 1 t.g.arr.toList from λj v hv=>(h.cell (p:=⟨T,1+j,none⟩) LTT).trans ((eF tb.blk tb.ok).1 j v hv)));have MB:=Hx (λw' (h:Below wb.heap.size wb w')=>rI ((h.block A8 Oi).trans RB.out));have GDL:=Hx (λw'=>sx t.g tt at8 mc tag w' OKG.out htt Iw);have OKF:=Hx (Gp.deliver_ok OKG.out (at':=at8) htt mc);obtain⟨FG,MA⟩:=Nm (t.g.deliver tt at8 mc);obtain⟨BB,hBB⟩:=Nm (t.g.delivers tt mc);rw[MA,hBB]at GDL E;rw[MA]at OKF;have ZF:=Hx (Gp.size OKF.out);obtain⟨g,hg⟩:=Nm t.g
 have hgz:(({ t with fly:=F }:Tg).g).arr=g.arr:=by rw[<-hg]
 rw[hg]at GDL ZG RG;clear ki tb lo hy MA hBB hgz;go_upto_region 6 with fail;go_cut [9,10] (λv9 v10 wx=>∃V,v9=.pointer (some ⟨V,0,none⟩)/\v10=.bool BB/\wb.heap.size<=V/\wx.heap[V]?=some (.cells FG.arr 69 (0,0))/\Below wb.heap.size wb wx)
 case first =>
  obtain⟨S,hS⟩:∃S:World->Prop,S=λw'=>Below wb.heap.size wb w':=⟨_,rfl⟩
  have S3:∀w',Below wb.heap.size wb w'->S w':=λw' h=>by rw[hS]; exact h
  have S4:∀w',S w'->Below wb.heap.size wb w':=λw' h=>by rw[hS]at h; exact h
  clear hS;refine wp_region_held_drew (S:=S) (by kernel_rfl) (S3 _ (Below.refl _ _).drew) (λdT=>?_);obtain⟨wd,IB⟩:=Nn wb.drew;rw[<-IB]at dT ⊢;clear IB;refine wt 0 _ dT ?_;go_simp;refine wt 1 _ dT ?_;go_simp;refine wt 2 _ dT ?_;go_simp;refine wt 3 (.agg g.arr) dT ?_ (hy:=cD (by rfl) 69 _ rfl T 1 rfl g.arr _ (λw' h=>RG.out w' (S4 w' h)) aj.1 rfl (by rw[aj.2,ZG.out]));go_simp;refine wt 4 (.agg #[.int .i64 (tt:Int),.int .i64 (at8:Int),.int .i64 mc.e,.int .i64 mc.n,.string mc.d,.int .i64 tag]) dT ?_ (hy:=Or.inl ⟨by rfl,λw' sT=>by obtain⟨q0,q1,q2,q3,q4,q5⟩:=MB.out w' (S4 w' sT); go_simp⟩);go_simp;refine DV 5 9 (λKx hK=>?_) (λKx hK=>?_)
  .go_simp;refine(GDL.out _).mono ?_;rintro e w1_ ⟨rfl,b1⟩;have IW:=S3 _ ((S4 _ dT).trans (b1.mono (S4 _ dT).size));clear b1;refine hK.out _ _ IW (λIb=>?_);clear hK Kx IW;refine wt 6 _ Ib ?_;go_simp;refine wt 7 _ Ib ?_;go_simp;refine wt 8 _ Ib ?_;go_simp;refine eB 9 λKx hK=>?_;go_simp;obtain⟨w2_,IQ⟩:=Nn (w1_.alloc (.cells Tryz.zeroCells69 69));have HV2:=Hs (w2_.heap[w1_.heap.size]?=some (.cells Gp.zero.arr 69 (0,0))) (IQ▸aS▸heap_alloc_new _ _);have Je:=S3 _ (show Below wb.heap.size wb w2_ from IQ▸(S4 _ Ib).alloc (S4 _ Ib).size _);have HL2:wb.heap.size<=w1_.heap.size:=(S4 _ Ib).size;rw[<-IQ];obtain⟨V2,Nr⟩:=Nm w1_.heap.size;rw[Nr]at HV2 HL2 ⊢;clear IQ Nr;refine hK.out _ _ Je (λIa=>?_);clear hK Kx Je;refine eB 10 λKx hK=>?_;refine aJ rfl 69 _ _ rfl V2 FG.arr rfl rfl 69 Gp.zero.arr HV2.out (by rw[aj.2,ZF.out]) (by rw[ZF.out]; rfl) (Gp.one _) ?_;have Nw:=Hs ((World.setRow w2_ V2 FG.arr).heap[V2]?=some (.cells FG.arr 69 (0,0))) (setRow_heap _ _ _ _ _ _ HV2.out);have JD:=S3 _ (show Below wb.heap.size wb (World.setRow w2_ V2 FG.arr) from aN (S4 _ Ia) HL2 _);refine hK.out _ _ JD (λID=>?_);clear hK Kx JD;go_simp;refine eB 11 λKx hK=>?_;go_simp;have KV:=ID;refine hK.out _ _ KV (λJi=>?_);clear hK Kx KV;refine wpAnyH_done (by kernel_rfl) ?_ _;go_wp2_with fail;go_meet;exact⟨V2,rfl,rfl,HL2,Nw.out,S4 _ Ji⟩
  .go_simp;obtain⟨w5_,Jc⟩:=Nn (wd.alloc (.cells Tryz.zeroCells69 69));have Nu:=Hs (w5_.heap[wd.heap.size]?=some (.cells Gp.zero.arr 69 (0,0))) (Jc▸aS▸heap_alloc_new _ _);have KU:=S3 _ (show Below wb.heap.size wb w5_ from Jc▸(S4 _ dT).alloc (S4 _ dT).size _);have HL5:wb.heap.size<=wd.heap.size:=(S4 _ dT).size;rw[<-Jc];obtain⟨V5,hV5⟩:=Nm wd.heap.size;rw[hV5]at Nu HL5 ⊢;clear Jc hV5;refine hK.out _ _ KU (λIM=>?_);clear hK Kx KU;refine eB 5 λKx hK=>?_;go_simp;refine(GDL.out _).mono ?_;rintro e w6_ ⟨rfl,b6⟩;have KT:=S3 _ ((S4 _ IM).trans (b6.mono (S4 _ IM).size));have M5:=Hx ((b6.block _ (Gl Nu.out)).trans Nu.out);clear b6;refine hK.out _ _ KT (λIt=>?_);clear hK Kx KT;refine wt 6 _ It ?_;go_simp;refine wt 7 _ It ?_;go_simp;refine wt 8 _ It ?_;go_simp;refine eB 10 λKx hK=>?_;refine aJ rfl 69 _ _ rfl V5 FG.arr rfl rfl 69 Gp.zero.arr M5.out (by rw[aj.2,ZF.out]) (by rw[ZF.out]; rfl) (Gp.one _) ?_;have HS7:=Hs ((World.setRow w6_ V5 FG.arr).heap[V5]?=some (.cells FG.arr 69 (0,0))) (setRow_heap _ _ _ _ _ _ M5.out);have KQ:=S3 _ (show Below wb.heap.size wb (World.setRow w6_ V5 FG.arr) from aN (S4 _ It) HL5 _);refine hK.out _ _ KQ (λIC=>?_);clear hK Kx KQ;go_simp;refine eB 11 λKx hK=>?_;go_simp;have KO:=IC;refine hK.out _ _ KO (λOh=>?_);clear hK Kx KO;refine wpAnyH_done (by kernel_rfl) ?_ _;go_wp2_with fail;go_meet;exact⟨V5,rfl,rfl,HL5,HS7.out,S4 _ Oh⟩
 case rest =>
 obtain⟨wv,rfl⟩:∃w2:World,w2=wc:=⟨_,rfl⟩
 obtain⟨V,rfl,rfl,hV,hc,hb⟩:=hcut;have HC:=Hx hc;have Nu:=Hs (bR w0 n D T { t with fly:=F } Z wv) (HB.out.over hb);have SV:=Hs (Same Z wb wv) (λb hz=>hb.block b (HB.out.lt_y b hz));clear hc hb GDL RG MB HB LTT
 have TH:=Hs (wv.there T 1 FG.arr.size) (by
  obtain⟨X5,m5,_,tb5,_⟩:=Nu.out;rw[ZF.out]
  exact(eF tb5.blk tb5.ok).2)
 go_upto_region 8 with (first|((with_reducible refine bU rfl 69 _ rfl ?_); refine⟨V,_,FG.arr,_,rfl,HC.out,aj.1,rfl,by rw[aj.2,ZF.out],?_⟩)|((with_reducible refine eZ rfl 69 _ _ rfl ?_); refine⟨T,1,FG.arr,rfl,rfl,TH.out,by rw[aj.2,ZF.out],Gp.one _,?_⟩));obtain⟨w6,IP⟩:=Nn (wv.setCells T 1 FG.arr.toList);obtain⟨t1,ht1⟩:=Nm ({ t with fly:=F,g:=FG }:Tg);have P6:=Hs (bR w0 n D T t1 Z w6/\Same Z wv w6) (ht1▸Nu.out.setG OKF.out IP);have WS:=Hs (t1.wait.Pairwise (λa b=>a.tag<b.tag)) (ht1▸HD.out.ws);rw[ht1]at E;rw[<-IP];have RB6:=Hx ((P6.out.2 A8 ZB.out).trans ((SV.out A8 ZB.out).trans RB.out));have SY6:=Hs (Same Y w w6) (SYB.out.trans (λb hb=>(P6.out.2 b (ZY.out b hb)).trans (SV.out b (ZY.out b hb))));have H6:=Hx P6.out.1;clear IP ht1 TH HC Nu SV SYB RB Oi P6 HD ZB
 obtain⟨wb,rfl⟩:∃wb:World,wb=w6:=⟨_,rfl⟩
 have Oi:=(Gl RB6.out)
 obtain⟨X6,m6,ki6,tb6,lo6,hy6⟩:=H6.out
 have LTT:=(Gl tb6.blk)
 obtain⟨W8,hW8⟩:=Nm m6.W;have C85:=Hs (∀w',Below wb.heap.size wb w'->w'.cell? ⟨T,85,none⟩=some (.map (some W8))) (λw' b=>(b.cell (p:=⟨T,85,none⟩) LTT).trans (hW8▸(aG tb6.blk tb6.ok).1.2.2.2.2.2.2.2.1));have MB:=Hx (λw' (h:Below wb.heap.size wb w')=>rI ((h.block A8 Oi).trans RB6.out))
 have hz6:∀w,(zeroValue 133).run Tryz.prog w=.ok (.agg #[.int .i64 0,.int .i64 0,.map none]) w:=λw=>by kernel_rfl
 obtain⟨WH,WN,M8,IS,hlk,JL⟩:∃(WH WN:Int) (M8:Option Nat) (IS:Bool),(∀w',Below wb.heap.size wb w'->(Instr.lookup 103 (.map (some W8)) (.int .i64 tag) true).run Tryz.prog w'=.ok (.tuple #[.agg #[.int .i64 WH,.int .i64 WN,.map M8],.bool IS]) w') /\
   ((IS=false/\fi tag t1.wait=none)\/(IS=true/\∃(j:Nat) (_:j<t1.wait.length) (h2:j<m6.hm.length),fi tag t1.wait=some j/\M8=some m6.hm[j])):=by
  have run:=λw' (b:Below wb.heap.size wb w')=>oH (P:=Tryz.prog) Tryz.underlying103 Tryz.underlying3 (show df w' W8 (bY t1.wait m6.hm) from hW8▸tb6.wait.move (b.block _ tb6.wait.lt)) tag (hz6 w');have hf:=kO tag t1.wait m6.hm 0 tb6.wl
  cases hq:fi tag t1.wait with
  | none =>
   rw[hq]at hf;exact⟨0,0,none,false,λw' b=>by rw[run w' b,hf],.inl ⟨rfl,rfl⟩⟩
  | some j =>
   obtain⟨h1,-,-⟩:=gd _ _ _ hq
   have h2:j<m6.hm.length:=by rw[<-tb6.wl]; exact h1
   rw[hq]at hf;simp only[List.getElem?_eq_getElem h1,List.getElem?_eq_getElem h2,Option.bind_some,Option.map_some,Nat.zero_add]at hf;exact⟨t1.wait[j].who,t1.wait[j].num,some m6.hm[j],true,λw' b=>by rw[run w' b,hf],.inr ⟨rfl,j,h1,h2,rfl,rfl⟩⟩
 have LK:=Hx hlk;have MD:=Hx JL;have KI6:=Hx ki6;have TB6:=Hx tb6;have LO6:=Hx lo6;have HY6:=Hx hy6;have HW8:=Hx hW8;clear hlk JL ki6 tb6 lo6 hy6 hW8 hz6;simp only[Act.put];go_cut [11,12] (λv11 v12 wx=>∃U,v11=.pointer (some ⟨U,0,none⟩)/\v12=.bool IS/\wb.heap.size<=U/\wx.heap[U]?=some (.cells #[.int .i64 WH,.int .i64 WN,.map M8] 133 (0,0))/\Below wb.heap.size wb wx)
 case first =>
  obtain⟨S,hS⟩:∃S:World->Prop,S=λw'=>Below wb.heap.size wb w':=⟨_,rfl⟩
  have S3:∀w',Below wb.heap.size wb w'->S w':=λw' h=>by rw[hS]; exact h
  have S4:∀w',S w'->Below wb.heap.size wb w':=λw' h=>by rw[hS]at h; exact h
  clear hS;refine wp_region_held_drew (S:=S) (by kernel_rfl) (S3 _ (Below.refl _ _).drew) (λdT=>?_);obtain⟨wd,IB⟩:=Nn wb.drew;rw[<-IB]at dT ⊢;clear IB;refine wt 0 _ dT ?_;go_simp;refine wt 1 _ dT ?_;go_simp;refine wt 2 _ dT ?_;go_simp;refine wt 3 (.map (some W8)) dT ?_ (hy:=Or.inl ⟨by rfl,λw' sT=>by have hc:=C85.out w' (S4 w' sT); go_simp⟩);go_simp;refine wt 4 _ dT ?_;go_simp;refine wt 5 (.int .i64 tag) dT ?_ (hy:=Or.inl ⟨by rfl,λw' sT=>by obtain⟨q0,q1,q2,q3,q4,q5⟩:=MB.out w' (S4 w' sT); go_simp⟩);go_simp;refine wt 6 (.tuple #[.agg #[.int .i64 WH,.int .i64 WN,.map M8],.bool IS]) dT ?_ (hy:=Or.inl ⟨by rfl,λw' sT=>by have hlk:=LK.out w' (S4 w' sT); go_simp⟩);go_simp;refine wt 7 _ dT ?_;go_simp;refine wt 8 _ dT ?_;go_simp;refine wt 9 _ dT ?_;go_simp;refine eB 10 λKx hK=>?_;go_simp;obtain⟨w1_,pX⟩:=Nn (wd.alloc (.cells #[.int .i64 0,.int .i64 0,.map none] 133));have HV1:=Hs (w1_.heap[wd.heap.size]?=some (.cells #[.int .i64 0,.int .i64 0,.map none] 133 (0,0))) (pX▸heap_alloc_new _ _);have IW:=S3 _ (show Below wb.heap.size wb w1_ from pX▸(S4 _ dT).alloc (S4 _ dT).size _);have HL1:wb.heap.size<=wd.heap.size:=(S4 _ dT).size;rw[<-pX];obtain⟨V1,hV1⟩:=Nm wd.heap.size;rw[hV1]at HV1 HL1 ⊢;clear pX hV1;refine hK.out _ _ IW (λIb=>?_);clear hK Kx IW;refine eB 11 λKx hK=>?_;obtain⟨⟨y0,y1,y2⟩,z0,z1,z2⟩:=cells3 HV1.out;go_simp;clear y0 y1 y2 z0 z1 z2;have Nx:=Hx (Ag HV1.out (.int .i64 WH) (.int .i64 WN) (.map M8));have Je:=S3 _ (tC (S4 _ Ib) HL1 (.int .i64 WH) (.int .i64 WN) (.map M8));refine hK.out _ _ Je (λIa=>?_);clear hK Kx Je;refine eB 12 λKx hK=>?_;go_simp;have JD:=Ia;refine hK.out _ _ JD (λID=>?_);clear hK Kx JD;refine wpAnyH_done (by kernel_rfl) ?_ _;go_wp2_with fail;go_meet;exact⟨V1,rfl,rfl,HL1,Nx.out,S4 _ ID⟩
 case rest =>
 obtain⟨w7,rfl⟩:∃w2:World,w2=wc:=⟨_,rfl⟩
 obtain⟨U,rfl,rfl,hU,hc,hb⟩:=hcut;have HU:=Hx hc;have B7:=Hx hb;have H7:=Hx (H6.out.over hb);have SY7:=Hs (Same Y w w7) (SY6.out.trans (λb hz=>hb.block b (H6.out.lt_y b (ZY.out b hz))));clear hc hb LK;cases BB
 .have E2:=Hx (E.out.trans (if_neg (by decide)));clear E;go_wp2;exact bodyPost_ret (v:=.tuple #[.bool false,.nilIface]) (by simp[results,Tryz.results12,go_sem]) rfl (by rw[E2.out]; exact⟨by rw[aH],H7.out.less ZY.out,SY7.out⟩)
 have E2:=Hx (E.out.trans (if_pos rfl));clear E
 rcases MD.out with⟨rfl,hn⟩ | ⟨rfl,jj,Lm,MV,ht,rfl⟩
 .have E3:=Hs (R=(t1,true,0)) (by rw[E2.out,zJ (m:=⟨tt,at8,mc,tag⟩) hn]);clear E2 hn MD;go_wp2;exact bodyPost_ret (v:=.tuple #[.bool true,.nilIface]) (by simp[results,Tryz.results12,go_sem]) rfl (by rw[E3.out]; exact⟨by rw[aH],H7.out.less ZY.out,SY7.out⟩)
 have HJJ:=Hx ht;have LT7:=Hs (∀b,X6 b->b<w7.heap.size) (λb hb=>Nat.lt_of_lt_of_le (KI6.out.lt b hb) B7.out.size);have TB7:=Hx (TB6.out.same (KI6.out.same_of B7.out) LT7.out);have KI7:=Hx (KI6.out.over B7.out);have qH:=TB7.out.have' jj MV Lm;obtain⟨H,hH⟩:=Nm (m6.hm[jj]);obtain⟨UO1,hU1,hU2⟩:=gg (P:=Tryz.prog) Tryz.underlying104 Tryz.underlying3 qH.2.2.2 (tt:Int) (.bool true);rw[uf]at hU2;rw[hH]at hU1 hU2;obtain⟨w8,IU⟩:=Nn (dK w7 H UO1);rw[<-IU]at hU1 hU2;have UPD8:=Hx hU1;have KP8:=Hs (ac (·=m6.hm[jj]) w7 w8) (by rw[hH,IU]; exact(ac.refl (·=H) w7).setO' rfl _);have IM8:=Hs (df w8 m6.hm[jj] (eh (t1.wait[jj].put tt).hv)) (by rw[hH]; exact hU2);have hlen:=tQ (P:=Tryz.prog) Tryz.underlying104 hU2;rw[show(eh (if (tt:Int)∈t1.wait[jj].hv then t1.wait[jj].hv else t1.wait[jj].hv ++ [(tt:Int)])).length=(t1.wait[jj].put tt).hv.length from by unfold eh; rw[List.length_map]; rfl]at hlen
 have cellsNe:∀b cs ty fr,w7.heap[b]?=some (.cells cs ty fr)->b≠m6.hm[jj]:=λb cs ty fr hc e=>by subst e;obtain⟨es,cl,h1,_⟩:=qH.2.2.2;rw[h1]at hc; cases hc
 have RB7:=Hx ((B7.out.block A8 Oi).trans RB6.out);have UB8:=Hx ((KP8.out.block U (cellsNe _ _ _ _ HU.out) (Gl HU.out)).trans HU.out);have RB8:=Hx ((KP8.out.block A8 (cellsNe _ _ _ _ RB7.out) (Gl RB7.out)).trans RB7.out);obtain⟨e0,-,-,-,-,-⟩:=rI RB7.out;obtain⟨⟨u0,u1,u2⟩,-⟩:=cells3 HU.out;obtain⟨⟨v0,v1,v2⟩,-⟩:=cells3 UB8.out;rw[hH]at u2 v2;clear hU1 hU2 IU cellsNe qH ht hH;go_upto_region 11 with (at_mapUpdate; refine uY _ (by rfl) _ _ _ _ (by rfl) w8 (by exact UPD8.out) ?_);obtain⟨LN,hLN⟩:=Nm ((t1.wait[jj].put tt).hv.length);rw[hLN]at hlen;have Nz:=Hx hLN;clear hLN;by_cases h2:2<=LN
 case neg =>
  have E3:=Hs (R=({ t1 with wait:=t1.wait.set jj (t1.wait[jj].put tt) },true,0)) (by rw[E2.out,CV (m:=⟨tt,at8,mc,tag⟩) HJJ.out Lm WS.out (by rw[Nz.out]; exact h2)])
  have q5:¬ (2:Int)<=(LN:Int):=by omega
  have P:=Hs (bR w0 n D T { t1 with wait:=t1.wait.set jj (t1.wait[jj].put tt) } Z w8/\Same Z w7 w8) (   ⟨⟨X6,m6,KI7.out.set (KP8.out.mono (λb e=>e▸(TB7.out.have' jj MV Lm).1)) LO6.out,TB7.out.had LT7.out Lm MV tt KP8.out IM8.out,LO6.out,HY6.out⟩,λb hb=>KP8.out.block b (λe=>(HY6.out b hb).2 (.inr (.inr (.inr (.inl (e▸List.getElem_mem MV)))))) (LT7.out b (HY6.out b hb).1)⟩);clear h2 E2 MD;go_wp2;exact bodyPost_ret (v:=.tuple #[.bool true,.nilIface]) (by simp[results,Tryz.results12,go_sem]) rfl (by rw[E3.out]; exact⟨by rw[aH],P.out.1.less ZY.out,SY7.out.trans (λb hb=>P.out.2 b (ZY.out b hb))⟩)
 have E3:=Hs (R=({ t1 with wait:=t1.wait.eraseIdx jj,done:=if tag∈t1.done then t1.done else t1.done ++ [tag] },true,0)) (by rw[E2.out,zK (m:=⟨tt,at8,mc,tag⟩) HJJ.out Lm WS.out (by rw[Nz.out]; exact h2)])
 have q5:(2:Int)<=(LN:Int):=by omega
 clear h2 E2 MD;have qH:=TB7.out.have' jj MV Lm;have hz7:=LT7.out _ qH.1;have MH:=KP8.out.size;have hW7:=TB7.out.wait.lt;have hN7:=TB7.out.done.lt;obtain⟨UO2,hD1,hD2⟩:=oJ (P:=Tryz.prog) (w:=w8.drew) (ty:=0) Tryz.underlying103 Tryz.underlying3 (show df w8.drew m6.W (bY t1.wait m6.hm) from TB7.out.wait.move (KP8.out.block _ (Ne.symm qH.2.1) hW7)) tag;rw[CJ TB7.out.wl HJJ.out]at hD2;obtain⟨w9,hw9⟩:=Nn (dK w8.drew m6.W UO2);rw[<-hw9]at hD1 hD2;have KP9:=Hs (ac (·=m6.W) w8 w9) (hw9▸(ac.refl (·=m6.W) w8).drew.setO' rfl _);have IM9:=Hx hD2;rw[HW8.out]at hD1;have DEL9:=Hx hD1;clear hD1 hD2 hw9;have hz89:=KP9.out.size;obtain⟨N8,hN8⟩:=Nm m6.N;obtain⟨UO3,hV1,Nr⟩:=gg (P:=Tryz.prog) (w:=w9.drew) Tryz.underlying104 Tryz.underlying3 (show df w9.drew m6.N (eh t1.done) from TB7.out.done.move ((KP9.out.block _ (Ne.symm TB7.out.wn) (Nat.lt_of_lt_of_le hN7 MH)).trans (KP8.out.block _ (Ne.symm qH.2.2.1) hN7))) tag (.bool true);rw[uf]at Nr;obtain⟨w10,I6⟩:=Nn (dK w9.drew m6.N UO3);rw[<-I6]at hV1 Nr;have KP10:=Hs (ac (·=m6.N) w9 w10) (I6▸(ac.refl (·=m6.N) w9).drew.setO' rfl _);have IM10:=Hx Nr;rw[hN8]at hV1;have UPD10:=Hx hV1;clear hV1 Nr I6;have GONE:=Hx (TB7.out.gone LT7.out Lm MV _ KP8.out KP9.out IM9.out KP10.out IM10.out)
 have P:=Hs (bR w0 n D T { t1 with wait:=t1.wait.eraseIdx jj,done:=if tag∈t1.done then t1.done else t1.done ++ [tag] } Z w10/\Same Z w7 w10) (by
  have own:∀b,(b=m6.W\/b=m6.N\/b∈m6.hm)->m6.own T b:=λb e=>by
   rcases e with e | e | e
   .exact .inr (.inl e)
   .exact .inr (.inr (.inl e))
   .exact .inr (.inr (.inr (.inl e)))
  have xo:∀b,(b=m6.W\/b=m6.N\/b∈m6.hm)->X6 b:=λb e=>by
   rcases e with rfl | rfl | e
   .exact TB7.out.xw
   .exact TB7.out.xn
   .obtain⟨i,hi,rfl⟩:=List.mem_iff_getElem.1 e;exact(TB7.out.have' i hi (by rw[TB7.out.wl]; exact hi)).1
  refine⟨⟨X6,{ m6 with hm:=m6.hm.eraseIdx jj },KI7.out.set (GONE.out.2.mono xo) LO6.out,GONE.out.1,LO6.out,λb hb=>⟨(HY6.out b hb).1,λho=>(HY6.out b hb).2 ?_⟩⟩,λb hb=>GONE.out.2.block b (λe=>(HY6.out b hb).2 (own b e)) (LT7.out b (HY6.out b hb).1)⟩
  rcases ho with ho | ho | ho | ho | ho
  .exact .inl ho
  .exact .inr (.inl ho)
  .exact .inr (.inr (.inl ho))
  .exact .inr (.inr (.inr (.inl (List.mem_of_mem_eraseIdx ho))))
  .exact .inr (.inr (.inr (.inr ho))))
 have nM:∀b cs ty fr,w7.heap[b]?=some (.cells cs ty fr)->b≠m6.hm[jj]/\b≠m6.W/\b≠m6.N:=λb cs ty fr hc=>by
  refine⟨λe=>?_,λe=>?_,λe=>?_⟩
  .subst e;obtain⟨es,cl,h1,_⟩:=qH.2.2.2;rw[h1]at hc; cases hc
  .subst e;obtain⟨es,cl,h1,_⟩:=TB7.out.wait;rw[h1]at hc; cases hc
  .subst e;obtain⟨es,cl,h1,_⟩:=TB7.out.done;rw[h1]at hc; cases hc
 have nT:=nM T _ _ _ TB7.out.blk;have nA:=nM A8 _ _ _ RB7.out
 have lT:=(Gl TB7.out.blk)
 have lA:=(Gl RB7.out)
 have T8:=KP8.out.block T nT.1 lT;have A8':=KP8.out.block A8 nA.1 lA;have T9:=(KP9.out.block T nT.2.1 (Nat.lt_of_lt_of_le lT MH)).trans T8;have A9':=(KP9.out.block A8 nA.2.1 (Nat.lt_of_lt_of_le lA MH)).trans A8';have T10:=(KP10.out.block T nT.2.2 (Nat.lt_of_lt_of_le (Nat.lt_of_lt_of_le lT MH) hz89)).trans T9;have A10':=(KP10.out.block A8 nA.2.2 (Nat.lt_of_lt_of_le (Nat.lt_of_lt_of_le lA MH) hz89)).trans A9';have t85:w7.cell? ⟨T,85,none⟩=some (.map (some W8)):=HW8.out▸(aG TB7.out.blk TB7.out.ok).1.2.2.2.2.2.2.2.1;have t87:w7.cell? ⟨T,87,none⟩=some (.map (some N8)):=hN8▸(aG TB7.out.blk TB7.out.ok).1.2.2.2.2.2.2.2.2.2;have a5:w7.cell? ⟨A8,5,none⟩=some (.int .i64 tag):=(rI RB7.out).2.2.2.2.2;have SD8:=Hs (w8.drew.cell? ⟨T,85,none⟩=some (.map (some W8))/\w8.drew.cell? ⟨A8,5,none⟩=some (.int .i64 tag)) (⟨(World.cell?_of_block (w:=w7) (w':=w8.drew) (a:=⟨T,85,none⟩) T8).trans t85,(World.cell?_of_block (w:=w7) (w':=w8.drew) (a:=⟨A8,5,none⟩) A8').trans a5⟩);have SD9:=Hs (w9.cell? ⟨T,85,none⟩=some (.map (some W8))/\w9.cell? ⟨A8,5,none⟩=some (.int .i64 tag)) (⟨(World.cell?_of_block (w:=w7) (a:=⟨T,85,none⟩) T9).trans t85,(World.cell?_of_block (w:=w7) (a:=⟨A8,5,none⟩) A9').trans a5⟩);have SE9:=Hs (w9.drew.cell? ⟨T,87,none⟩=some (.map (some N8))/\w9.drew.cell? ⟨A8,5,none⟩=some (.int .i64 tag)) (⟨(World.cell?_of_block (w:=w7) (w':=w9.drew) (a:=⟨T,87,none⟩) T9).trans t87,(World.cell?_of_block (w:=w7) (w':=w9.drew) (a:=⟨A8,5,none⟩) A9').trans a5⟩);have SD10:=Hs (w10.cell? ⟨T,87,none⟩=some (.map (some N8))/\w10.cell? ⟨A8,5,none⟩=some (.int .i64 tag)) (⟨(World.cell?_of_block (w:=w7) (a:=⟨T,87,none⟩) T10).trans t87,(World.cell?_of_block (w:=w7) (a:=⟨A8,5,none⟩) A10').trans a5⟩);clear nT nA lT lA T8 A8' T9 A9' T10 A10' t85 t87 a5 nM qH hz7 MH hW7 hN7 hz89 GONE IM8 IM9 IM10 KP8 KP9 KP10 TB7 KI7 LT7 TB6 KI6 LO6 HY6 C85 MB;go_upto_region 12 with fail
 obtain⟨S,hS⟩:∃S:World->Prop,S=λw'=>w'.cell? ⟨T,85,none⟩=some (.map (some W8))/\w'.cell? ⟨A8,5,none⟩=some (.int .i64 tag):=⟨_,rfl⟩
 have S3:∀w',(w'.cell? ⟨T,85,none⟩=some (.map (some W8))/\w'.cell? ⟨A8,5,none⟩=some (.int .i64 tag))->S w':=λw' h=>by rw[hS]; exact h
 have S4:∀w',S w'->(w'.cell? ⟨T,85,none⟩=some (.map (some W8))/\w'.cell? ⟨A8,5,none⟩=some (.int .i64 tag)):=λw' h=>by rw[hS]at h; exact h
 clear hS;refine wp_region_held_drew (S:=S) (by kernel_rfl) (S3 _ SD8.out) (λdT=>?_);refine wt 0 _ dT ?_;go_simp;refine wt 1 _ dT ?_;go_simp;refine wt 2 _ dT ?_;go_simp;refine wt 3 (.map (some W8)) dT ?_ (hy:=Or.inl ⟨by rfl,λw' sT=>by obtain⟨qm,q5⟩:=S4 w' sT; go_simp⟩);go_simp;refine wt 4 _ dT ?_;go_simp;refine wt 5 (.int .i64 tag) dT ?_ (hy:=Or.inl ⟨by rfl,λw' sT=>by obtain⟨qm,q5⟩:=S4 w' sT; go_simp⟩);go_simp;refine eB 6 λKx hK=>?_;refine Ap (by rfl) _ _ _ _ (by rfl) w9 (by simp only[Act.eval]; exact DEL9.out) ?_;have IW:=S3 _ SD9.out;refine hK.out _ _ IW (λIb=>?_);clear hK Kx IW;refine wpAnyH_done (by kernel_rfl) ?_ _;clear S3 S4;go_upto_region 13 with fail
 obtain⟨S2,hS⟩:∃S:World->Prop,S=λw'=>w'.cell? ⟨T,87,none⟩=some (.map (some N8))/\w'.cell? ⟨A8,5,none⟩=some (.int .i64 tag):=⟨_,rfl⟩
 have S3:∀w',(w'.cell? ⟨T,87,none⟩=some (.map (some N8))/\w'.cell? ⟨A8,5,none⟩=some (.int .i64 tag))->S2 w':=λw' h=>by rw[hS]; exact h
 have S4:∀w',S2 w'->(w'.cell? ⟨T,87,none⟩=some (.map (some N8))/\w'.cell? ⟨A8,5,none⟩=some (.int .i64 tag)):=λw' h=>by rw[hS]at h; exact h
 clear hS;refine wp_region_held_drew (S:=S2) (by kernel_rfl) (S3 _ SE9.out) (λdT=>?_);refine wt 0 _ dT ?_;go_simp;refine wt 1 _ dT ?_;go_simp;refine wt 2 _ dT ?_;go_simp;refine wt 3 (.map (some N8)) dT ?_ (hy:=Or.inl ⟨by rfl,λw' sT=>by obtain⟨qm,q5⟩:=S4 w' sT; go_simp⟩);go_simp;refine wt 4 _ dT ?_;go_simp;refine wt 5 (.int .i64 tag) dT ?_ (hy:=Or.inl ⟨by rfl,λw' sT=>by obtain⟨qm,q5⟩:=S4 w' sT; go_simp⟩);go_simp;refine eB 6 λKx hK=>?_;refine tI (by rfl) _ _ _ _ (by rfl) w10 (by simp only[Act.eval]; exact UPD10.out) ?_;have IW:=S3 _ SD10.out;refine hK.out _ _ IW (λIb=>?_);clear hK Kx IW;refine wpAnyH_done (by kernel_rfl) ?_ _;clear S3 S4;go_wp2;exact bodyPost_ret (v:=.tuple #[.bool true,.nilIface]) (by simp[results,Tryz.results12,go_sem]) rfl (by rw[E3.out]; exact⟨by rw[aH],P.out.1.less ZY.out,SY7.out.trans (λb hb=>P.out.2 b (ZY.out b hb))⟩)
end
