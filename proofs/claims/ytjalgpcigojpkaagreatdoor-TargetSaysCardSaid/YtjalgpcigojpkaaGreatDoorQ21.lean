import Derived.Test.YtjalgpcigojpkaaGreatDoorQ20
set_option maxRecDepth 99999
set_option maxHeartbeats 99999999
namespace Go.Proofs.YtjalgpcigojpkaaGreatDoor
section
open Go.RowKit Go.Sort
structure NB (w:World) (b:aw) (wx:World):Prop where
 below:Below w.heap.size w wx
 hR:wx.heap[w.heap.size]?=some (.cells aw.zero.cells 62 (0,0))
 hB:wx.heap[w.heap.size+1]?=some (.cells b.cells 62 (0,0))
theorem NB.lt{w wx:World}{b:aw}(f:NB w b wx):w.heap.size+1<wx.heap.size:=(Gl f.hB)
theorem NB.over{w wx w':World}{b:aw}(f:NB w b wx)(h:Below wx.heap.size wx w'):NB w b w' :=
 ⟨f.below.trans (h.mono f.below.size),(h.block _ (by have:=f.lt; omega)).trans f.hR,(h.block _ f.lt).trans f.hB⟩
theorem NB.put{w wx:World}{b:aw}(f:NB w b wx)(d:aw):NB w d (wx.setRow (w.heap.size+1) d.cells) :=
 ⟨f.below.trans (((ac.refl (·=w.heap.size+1) wx).setRow rfl _).below f.below.size (λm hm=>by omega)),(setRow_other _ _ _ _ (by omega)).trans f.hR,setRow_heap _ _ _ _ _ _ f.hB⟩
theorem o5(g:Gp)(l:List Int)(a:Option Addr)(cap k G:Nat)(w:World)(hg:g.ok)(LZ:k<8)(hl:l.length<=3)(hl3:∀j (h:j<l.length),∃i:Nat,i<3/\l[j]=(i:Int))(hi:fB 0 w a l)(h:w.heap[G]?=some (.cells g.arr 97 (0,0))) : Calls Tryz.prog 109 #[.pointer (some ⟨G,0,none⟩),.slice a l.length cap,.int .i64 k] w λe w'=>e=.returned (.agg (bK k (g.some l)).cells)/\Below w.heap.size w w':=by
 have OK:=Hx hg;have HG:=Hx h;have HI:=Hx hi
 have LAT:=Hs (∀j (h:j<l.length),∃i':Nat,i'<3/\l[j]=(i':Int)/\(g.some l)[j]?=some (g.r.getD i' Rp.zero)) (λj h=>by
  obtain⟨i',h3,e⟩:=hl3 j h;refine⟨i',h3,e,?_⟩;unfold Gp.some;rw[List.getElem?_map,List.getElem?_eq_getElem h,e]
  rfl)
 have lB:G<w.heap.size:=(Gl h)
 obtain⟨m,hm⟩:=Nm l.length;rw[hm]at hl ⊢;have HM:=Hx hm;obtain⟨L,hL⟩:=Nm (g.some l);rw[hL]at LAT ⊢;have LM:=Hs (L.length=m) (by rw[<-hL,<-hm]; simp[Gp.some]);clear hg h hi hl3 hm hL
 have hk8':(k:Int)<8:=by omega
 have BC:=Hx jx;go_enter Tryz.func109,Tryz.ntmps109
 go_upto_region 2 with (first|((with_reducible refine wT rfl 62 _ rfl ?_); refine⟨[],aw.zero.cells,rfl,BC.out,?_⟩)|((with_reducible refine cu rfl 62 _ _ rfl ?_); refine⟨w.heap.size+1,_,aw.zero.cells,_,rfl,rfl,heap_alloc2_new w _ _,au.2,rfl,eQ _,?_⟩));obtain⟨w1,pX⟩:=Nn (((w.alloc (.cells #[.int .i64 0,.int .i64 0,.string ⟨#[]⟩] 62)).alloc (.cells #[.int .i64 0,.int .i64 0,.string ⟨#[]⟩] 62)).setRow (w.heap.size+1) aw.zero.cells);rw[<-pX];have F1:=Hs (NB w aw.zero w1) (pX▸NB.put (b:=aw.zero) ⟨(ay w _).alloc (by simp) _,heap_alloc2_old w _ _,heap_alloc2_new w _ _⟩ _);clear pX;go_wp2;go_loopw [8,9] (λi _ wr=>∃j:Nat,j<=m/\i=.int .i64 j/\NB w (bK k (L.take j)) wr) (λi _ _=>m - (intOf i).toNat)
 case atStart=>exact⟨0,by omega,rfl,F1.out⟩
 case round =>
  obtain⟨j,hj,rfl,nb⟩:=hrel;obtain⟨b,Np⟩:=Nm (bK k (L.take j));rw[Np]at nb;have N1:=Hx nb;have BB:=Hx Np;clear nb Np F1;by_cases I8:j<m
  .obtain⟨i',h3,hx,hLj⟩:=LAT.out j (by rw[HM.out]; exact I8);obtain⟨bb,oo,rfl,-,Ko,wU⟩:=HI.out j (by rw[HM.out]; exact I8);rw[hx]at wU;have c0:=(N1.out.below.cell (p:=⟨bb,oo+j,none⟩) Ko).trans wU
   have h3i:(i':Int)<3:=by omega
   have IE:i'<g.r.length:=by rw[OK.out.r3]; exact h3
   have Lj:k<g.r[i'].cells.length:=by rw[OK.out.c8 _ (List.getElem_mem IE)]; exact LZ
   have HX:=Hx ((N1.out.below.block _ lB).trans HG.out);obtain⟨⟨g0,g1,g2⟩,-⟩:=ef HX.out OK.out IE Lj;obtain⟨d,hd⟩:=Nm (g.r[i'].cells[k]);rw[hd]at g0 g1 g2;obtain⟨X,hX⟩:=Nm (aC d b)
   have J8:j<L.length:=by rw[LM.out]; exact I8
   have HT:=Hs (bK k (L.take (j+1))=if X then d else b) (by
    have e:L[j].get k=d:=by
     have e2:L[j]=g.r[i']:=by have:=hLj;rw[List.getElem?_eq_getElem J8]at this;simpa[IE] using this
     rw[e2,Rp.get_at Lj,hd]
    rw[pK J8,e,BB.out,hX])
   have RN:=Hx (λ(w:World)=>tY hX w);clear hd hX IE Lj hLj J8 hx wU;have k0:∀o,(wr.alloc o).cell? ⟨bb,oo+j,none⟩=some (.int .i64 i'):=λo=>(World.cell?_alloc_some _ _ _ (by rw[c0]; rfl)).trans c0;have k1:∀o,(wr.alloc o).cell? ⟨G,i'*25+1+k*3,none⟩=some (.int .i64 d.e):=λo=>(World.cell?_alloc_some _ _ _ (by rw[g0]; rfl)).trans g0;have k2:∀o,(wr.alloc o).cell? ⟨G,i'*25+1+k*3+1,none⟩=some (.int .i64 d.n):=λo=>(World.cell?_alloc_some _ _ _ (by rw[g1]; rfl)).trans g1;have k3:∀o,(wr.alloc o).cell? ⟨G,i'*25+1+k*3+2,none⟩=some (.string d.d):=λo=>(World.cell?_alloc_some _ _ _ (by rw[g2]; rfl)).trans g2;go_wp2;go_region;obtain⟨w3,Ip⟩:=Nn ((wr.alloc (.cells #[.int .i64 d.e,.int .i64 d.n,.string d.d] 62)).drew);rw[<-Ip];have N3:=Hs (NB w b w3) (Ip▸N1.out.over ((ay wr _).drew));have C3:=Hs (w3.heap[wr.heap.size]?=some (.cells d.cells 62 (0,0))) (Ip▸heap_alloc_new wr _);have Ik:=Hs (w.heap.size+1<wr.heap.size) N1.out.lt;clear Ip k0 k1 k2 k3 c0 g0 g1 g2 HX N1;obtain⟨C,hC⟩:=Nm wr.heap.size;rw[hC]at C3 Ik;rw[hC];clear hC;go_wp2_with (first|((with_reducible refine bU rfl 62 _ rfl ?_); refine⟨C,_,d.cells,_,rfl,C3.out,au.1,rfl,au.2,?_⟩)|((with_reducible refine bU rfl 62 _ rfl ?_); refine⟨w.heap.size+1,_,b.cells,_,rfl,N3.out.hB,au.1,rfl,au.2,?_⟩));refine(RN.out _).mono ?_;rintro e w4 ⟨rfl,b4⟩;have N4:=Hx (N3.out.over b4);have C4:=Hx ((b4.block _ (Gl C3.out)).trans C3.out);clear b4 N3 C3;cases X
   .go_wp2;go_roundw
    case rel=>exact⟨j+1,by omega,by go_num,by rw[HT.out]; exact N4.out⟩
    case measure=>simp[intOf]; omega
   .have N5:=Hx (N4.out.put d);go_wp2_with (first|((with_reducible refine bU rfl 62 _ rfl ?_); refine⟨C,_,d.cells,_,rfl,C4.out,au.1,rfl,au.2,?_⟩)|((with_reducible refine cu rfl 62 _ _ rfl ?_); refine⟨w.heap.size+1,_,d.cells,_,rfl,rfl,N4.out.hB,au.2,rfl,eQ _,?_⟩));go_roundw
    case rel=>exact⟨j+1,by omega,by go_num,by rw[HT.out]; exact N5.out⟩
    case measure=>simp[intOf]; omega
  .obtain rfl:j=m:=by omega
   rw[List.take_of_length_le (by rw[LM.out]; exact Nat.le_refl _)]at BB;go_wp2_with (first|((with_reducible refine bU rfl 62 _ rfl ?_); refine⟨w.heap.size+1,_,b.cells,_,rfl,N1.out.hB,au.1,rfl,au.2,?_⟩)|((with_reducible refine cu rfl 62 _ _ rfl ?_); refine⟨w.heap.size,_,b.cells,_,rfl,rfl,N1.out.hR,au.2,rfl,eQ _,?_⟩));refine bodyPost_ret (v:=.agg b.cells) (eJ Tryz.results109 _ _ w.heap.size 62 b.cells (0,0) _ rfl (setRow_heap _ _ _ _ _ _ N1.out.hR) au.1 rfl au.2) rfl ?_;exact⟨by rw[BB.out],N1.out.below.trans (((ac.refl (·=w.heap.size) wr).setRow rfl _).below N1.out.below.size (λm hm=>by omega))⟩
def Gp.ups(k:Nat):Gp:=⟨List.replicate k Rp.start ++ List.replicate (3 - k) Rp.zero,List.replicate 3 true⟩
theorem E8(k:Nat)(hk:k<=3):(Gp.ups k).ok:=by
 refine⟨by simp[Gp.ups]; omega,by simp[Gp.ups],λr hr=>?_⟩;simp only[Gp.ups,List.mem_append,List.mem_replicate]at hr
 rcases hr with⟨-,rfl⟩ | ⟨-,rfl⟩<;>rfl
theorem zZ(k:Nat)(hk:k<3):Gp.lift1 1 (Gp.ups k) k=Gp.ups (k+1):=by rcases (by omega:k=0\/k=1\/k=2) with rfl | rfl | rfl<;>rfl
theorem Dq:Gp.ups 3=Gp.start:=rfl
theorem zM:Tryz.prog.built 97 [(1,.agg #[.bool true,.bool true,.bool true])]=some (Gp.ups 0).arr:=by kernel_rfl
theorem yt(w:World) : Calls Tryz.prog 8 #[] w λe w'=>∃G,e=.returned (.pointer (some ⟨G,0,none⟩))/\w.heap.size<=G/\w'.heap[G]?=some (.cells Gp.start.arr 97 (0,0))/\Below w.heap.size w w':=by
 obtain⟨U,hU⟩:=Nm (Gp.ups 0);have BU:=Hs (Tryz.prog.built 97 [(1,.agg #[.bool true,.bool true,.bool true])]=some U.arr) (hU▸zM);have HU:=Hx hU;have OKU:=Hs (U.ok) (hU▸E8 0 (by omega));clear hU;go_enter Tryz.func8,Tryz.ntmps8
 go_upto_region 2 with ((with_reducible refine wT rfl 97 _ rfl ?_); refine⟨[(1,.agg #[.bool true,.bool true,.bool true])],U.arr,rfl,BU.out,?_⟩);obtain⟨w1,pX⟩:=Nn (w.alloc (.cells U.arr 97));rw[<-pX];have B1:=Hs (Below w.heap.size w w1) (pX▸ay w _);have P1:=Hs (PG w1 w.heap.size (Gp.ups 0) w1) (⟨ac.refl _ _,HU.out▸OKU.out,HU.out▸pX▸heap_alloc_new w _⟩);clear pX;obtain⟨G,hG⟩:=Nm w.heap.size;rw[hG]at P1;rw[hG];have HG:=Hx hG;clear hG;go_wp2;go_loopw [2] (λi wr=>∃k:Nat,k<=3/\i=.int .i64 k/\PG w1 G (Gp.ups k) wr) (λi _=>3 - (intOf i).toNat)
 case atStart=>exact⟨0,by omega,rfl,P1.out⟩
 case round =>
  obtain⟨k,hk,rfl,pg⟩:=hrel;obtain⟨h,hh⟩:=Nm (Gp.ups k);rw[hh]at pg;have PGH:=Hx pg;have HH:=Hx hh;clear pg hh P1;by_cases Jo:k<3
  .have HS:=Hs (Gp.lift1 1 h k=Gp.ups (k+1)) (HH.out▸zZ k Jo);obtain⟨f0,f1⟩:=ee PGH.out.hG PGH.out.ok (i:=k) (by rw[PGH.out.ok.r3]; exact Jo);have PS:=Hx (PGH.out.setF Jo 1);go_wp2;go_roundw
   case rel=>exact⟨k+1,by omega,by go_num,by rw[<-HS.out]; exact PS.out⟩
   case measure=>simp[intOf]; omega
  .obtain rfl:k=3:=by omega
   go_wp2;go_ret;exact⟨G,rfl,by rw[HG.out]; exact Nat.le_refl _,by rw[<-Dq,HH.out]; exact PGH.out.hG,B1.out.trans (PGH.out.keeps.below B1.out.size (λm hm=>by rw[HG.out]; omega))⟩
theorem PG.side{w wx w':World}{G R:Nat}{h:Gp}(f:PG w G h wx)(hR:w.heap.size<=R)(hG:G<w.heap.size)(k:ac (·=R) wx w'):PG w G h w' :=
 ⟨⟨k.os.trans f.keeps.os,k.tape.trans f.keeps.tape,k.output.trans f.keeps.output,Nat.le_trans f.keeps.size k.size,λb hb hs=>(k.block b (by omega) (Nat.lt_of_lt_of_le hs f.keeps.size)).trans (f.keeps.block b hb hs)⟩,f.ok,(k.block G (by omega) f.lt).trans f.hG⟩
theorem PG.setC{w wx:World}{G i k:Nat}{h:Gp}(f:PG w G h wx)(c:aw)(hi:i<3)(hk:k<8) : PG w G (h.put1 k c (i:Int)) (((wx.setCell ⟨G,i*25+1+k*3,none⟩ (.int .i64 c.e)).setCell ⟨G,i*25+1+k*3+1,none⟩ (.int .i64 c.n)).setCell ⟨G,i*25+1+k*3+2,none⟩ (.string c.d)) /\ ac (·=G) wx (((wx.setCell ⟨G,i*25+1+k*3,none⟩ (.int .i64 c.e)).setCell ⟨G,i*25+1+k*3+1,none⟩ (.int .i64 c.n)).setCell ⟨G,i*25+1+k*3+2,none⟩ (.string c.d)):=by
 have kp:ac (·=G) wx (((wx.setCell ⟨G,i*25+1+k*3,none⟩ (.int .i64 c.e)).setCell ⟨G,i*25+1+k*3+1,none⟩ (.int .i64 c.n)).setCell ⟨G,i*25+1+k*3+2,none⟩ (.string c.d)) :=
  ac.setCell (S:=(·=G)) (ac.setCell (S:=(·=G)) (ac.setCell (S:=(·=G)) (ac.refl _ _) rfl _) rfl _) rfl _
 have Ju:i<h.r.length:=by rw[f.ok.r3]; exact hi
 have IE:k<h.r[i].cells.length:=by rw[f.ok.c8 _ (List.getElem_mem Ju)]; exact hk
 have e:h.put1 k c (i:Int)=h.setR i ⟨h.r[i].floor,h.r[i].cells.set k c⟩:=by simp[Gp.put1,Ju]
 refine⟨⟨f.keeps.trans kp,Gp.put1_ok f.ok k c hi,?_⟩,kp⟩;rw[e];exact uF f.hG f.ok Ju IE c
theorem vA(g:Gp)(epoch:Int)(k G:Nat)(w:World)(hg:g.ok)(LZ:k<8)(h:w.heap[G]?=some (.cells g.arr 97 (0,0))) : Calls Tryz.prog 58 #[.pointer (some ⟨G,0,none⟩),.int .i64 epoch,.int .i64 k] w λe w'=>e=.returned (.tuple #[.agg (g.readC epoch k).cells,.bool (decide (2<=(g.mem epoch).length))])/\PG w G (g.read epoch k) w':=by
 have F0:=Hs (PG w G g w) (⟨ac.refl _ _,hg,h⟩);have lB:G<w.heap.size:=F0.out.lt;clear hg h;go_enter Tryz.func58,Tryz.ntmps58
 go_upto_region 1 with fail;obtain⟨w1,pX⟩:=Nn (w.alloc (.cells #[.int .i64 0,.int .i64 0,.string ⟨#[]⟩] 62));rw[<-pX];have F1:=Hs (PG w G g w1) (pX▸F0.out.over (ay w _));have R1:=Hs (w1.heap[w.heap.size]?=some (.cells aw.zero.cells 62 (0,0))) (pX▸heap_alloc_new w _);clear pX F0;go_wp2_with fail;refine(fN g epoch G _ F1.out.ok F1.out.hG).mono ?_;rintro e w2 ⟨a2,c2,rfl,ec,b2⟩;have F2:=Hx (F1.out.over b2);have R2:=Hx ((b2.block _ (Gl R1.out)).trans R1.out);have HI:=Hx ec.hi;have ML:=Hx (g.mem_len epoch 3);obtain⟨m,hm⟩:=Nm ((g.mem epoch).length);have G1OK:=Hx F1.out.ok;have NW:=Hx (λw' (h:w'.heap[G]?=some (.cells g.arr 97 (0,0))) (hi:fB 0 w' a2 (g.mem epoch))=>o5 g (g.mem epoch) a2 c2 k G w' G1OK.out LZ ML.out (λj h=>lD j h) hi h);rw[hm]at NW ⊢;have HM:=Hx hm;have hm3:m<=3:=hm▸ML.out;have hw1lt:w.heap.size<=w1.heap.size:=F1.out.keeps.size;clear hm b2 F1 R1 ec ML;by_cases hm2:m<2
 .have HN:=Hs (g.read epoch k=g/\g.readC epoch k=aw.zero/\decide (2<=m)=false) (by
   have:¬ 2<=(g.mem epoch).length:=by rw[HM.out]; omega
   exact⟨if_neg this,if_neg this,by simp; omega⟩)
  obtain⟨C0,MC⟩:=Nm aw.zero;have BC:=Hs (Tryz.prog.built 62 []=some C0.cells) (MC▸jx);have HZC:=Hs (w2.heap[w.heap.size]?=some (.cells C0.cells 62 (0,0))) (MC▸R2.out);rw[MC]at HN;clear MC;go_wp2_with (first|((with_reducible refine wT rfl 62 _ rfl ?_); refine⟨[],C0.cells,rfl,BC.out,?_⟩)|((with_reducible refine cu rfl 62 _ _ rfl ?_); refine⟨w.heap.size,_,C0.cells,_,rfl,rfl,HZC.out,au.2,rfl,eQ _,?_⟩));refine bodyPost_ret (v:=.tuple #[.agg C0.cells,.bool false]) (aW Tryz.results58 _ _ w.heap.size 62 C0.cells (0,0) _ _ rfl rfl (setRow_heap _ _ _ _ _ _ HZC.out) au.1 rfl au.2) rfl ?_;exact⟨by rw[HN.out.2.1,HM.out,HN.out.2.2],by rw[HN.out.1]; exact F2.out.side (Nat.le_refl _) lB ((ac.refl (·=w.heap.size) w2).setRow rfl _)⟩
 .have hm2':2<=(g.mem epoch).length:=by rw[HM.out]; omega
  have HD:=Hs (decide (2<=m)=true) (by simp; omega);obtain⟨b,hb⟩:=Nm (bK k (g.frm epoch));have HC:=Hs (g.readC epoch k=b) (hb▸if_pos hm2');have HN:=Hs (g.read epoch k=g.putAll k b (g.mem epoch)) (by rw[<-HC.out]; exact if_pos hm2')
  have hd2:decide ((m:Int)<2)=false:=by simp; omega
  have hk8':(k:Int)<8:=by omega
  have NW2:=Hx (NW.out _ F2.out.hG (HI.out.mono (Nat.zero_le _)));rw[Gp.some_frm,hb]at NW2;clear hm2' hb NW;go_wp2_with fail;refine NW2.out.mono ?_;rintro e w3 ⟨rfl,b3⟩;have F3:=Hx (F2.out.over b3);have R3:=Hx ((b3.block _ (Gl R2.out)).trans R2.out);have B3:=Hx b3;clear b3 NW2 F2;go_upto_region 5 with ((with_reducible refine cu rfl 62 _ _ rfl ?_); refine⟨w3.heap.size,_,b.cells,_,rfl,rfl,heap_alloc_new w3 _,au.2,rfl,eQ _,?_⟩);obtain⟨w4,Iq⟩:=Nn ((w3.alloc (.cells #[.int .i64 0,.int .i64 0,.string ⟨#[]⟩] 62)).setRow w3.heap.size b.cells);rw[<-Iq];have b4:Below w3.heap.size w3 w4:=Iq▸nL w3 _ _ _;have F4:=Hx (F3.out.over b4);have R4:=Hx ((b4.block _ (Gl R3.out)).trans R3.out);have N4:=Hs (w4.heap[w3.heap.size]?=some (.cells b.cells 62 (0,0))) (Iq▸setRow_heap _ _ _ _ _ _ (heap_alloc_new w3 _));have B4:=Hs (Below w2.heap.size w2 w4) (B3.out.trans (b4.mono B3.out.size))
  have hNw:w.heap.size<w3.heap.size:=(Gl R3.out)
  clear Iq b4 F3 R3 B3 R2;obtain⟨N,hNN⟩:=Nm w3.heap.size;rw[hNN]at N4 hNw;rw[hNN];clear hNN
  have hN4:N<w4.heap.size:=(Gl N4.out)
  go_wp2;go_loopw [10,22] (λi _ wy=>∃p:Nat,p<=m/\i=.int .i64 p/\PG w G (g.putAll k b ((g.mem epoch).take p)) wy/\ac (·=G) w4 wy) (λi _ _=>m - (intOf i).toNat)
  case atStart=>exact⟨0,by omega,rfl,F4.out,ac.refl _ _⟩
  case round =>
   obtain⟨p,hp,rfl,rb,kp⟩:=hrel;obtain⟨h,hh⟩:=Nm (g.putAll k b ((g.mem epoch).take p));rw[hh]at rb;have RH:=Hx rb;have KP:=Hx kp;have HH:=Hx hh;have HNB:=Hx ((kp.block N (by omega) hN4).trans N4.out);clear rb kp hh F4;by_cases hpj:p<m
   .obtain⟨i',h3,hx⟩:=lD p (show p<(g.mem epoch).length by rw[HM.out]; exact hpj);obtain⟨bb,oo,rfl,NQ,Ko,wU⟩:=HI.out p (by rw[HM.out]; exact hpj)
    have I0:=Hs (g.putAll k b ((g.mem epoch).take (p+1))=h.put1 k b (i':Int)) (by rw[List.take_succ_eq_append_getElem (by rw[HM.out]; exact hpj),Gp.putAll_snoc,HH.out,hx])
    rw[hx]at wU;have JW:=RH.out.keeps.size;have c0:=(KP.out.cell (b:=bb) (o:=oo+p) (by omega) (Nat.lt_of_lt_of_le Ko B4.out.size)).trans ((B4.out.cell (p:=⟨bb,oo+p,none⟩) Ko).trans wU)
    have h3i:(i':Int)<3:=by omega
    have Ju:i'<h.r.length:=by rw[RH.out.ok.r3]; exact h3
    obtain⟨b0,b1,b2⟩:=gv HNB.out;obtain⟨⟨g0,g1,g2⟩,f0,f1,f2⟩:=ef (k:=k) RH.out.hG RH.out.ok Ju (by rw[RH.out.ok.c8 _ (List.getElem_mem Ju)]; exact LZ);have RS:=Hx (RH.out.setC b (i:=i') h3 LZ);clear hx wU;go_wp2;go_region;go_wp2;go_roundw
    case rel=>exact⟨p+1,by omega,by go_num,by rw[I0.out]; exact RS.out.1.over (Below.refl _ _).drew,(KP.out.trans RS.out.2).drew⟩
    case measure=>simp[intOf]; omega
   .obtain rfl:p=m:=by omega
    rw[List.take_of_length_le (by rw[HM.out]; exact Nat.le_refl _)]at HH;have HR:=Hx (HN.out.trans HH.out);have Ny:=Hx ((KP.out.block w.heap.size (by omega) (by omega)).trans R4.out);clear HN HH;go_wp2_with (first|((with_reducible refine bU rfl 62 _ rfl ?_); refine⟨N,_,b.cells,_,rfl,HNB.out,au.1,rfl,au.2,?_⟩)|((with_reducible refine cu rfl 62 _ _ rfl ?_); refine⟨w.heap.size,_,b.cells,_,rfl,rfl,Ny.out,au.2,rfl,eQ _,?_⟩));refine bodyPost_ret (v:=.tuple #[.agg b.cells,.bool true]) (aW Tryz.results58 _ _ w.heap.size 62 b.cells (0,0) _ _ rfl rfl (setRow_heap _ _ _ _ _ _ Ny.out) au.1 rfl au.2) rfl ?_;exact⟨by rw[HC.out,HM.out,HD.out],by rw[HR.out]; exact RH.out.side (Nat.le_refl _) lB ((ac.refl (·=w.heap.size) wr).setRow rfl _)⟩
theorem rL:Tryz.prog.underlying 94=some (.struct (Tryz.prog.fieldsOf 94))/\(Tryz.prog.info? 94).map (·.size)=some 25:=by constructor<;>kernel_rfl
theorem CY(f:Int):Tryz.prog.built 94 [(0,.int .i64 f)]=some (Rp.mk f du).arr:=by kernel_rfl
theorem yq{w:World}{N k:Nat}{r:Rp}{T:TypeId}(h:w.heap[N]?=some (.cells r.arr T (0,0)))(h8:r.cells.length=8)(hk:k<8):w.there N (1+k*3) 3:=by intro j hj;have hz:=Rp.size h8;refine⟨?_,by simp[World.frozen?,h]⟩;rw[cell_of_row w N _ r.arr T (0,0) h,Array.getElem?_eq_getElem (by omega)];rfl
theorem DR{w:World}{N k:Nat}{r:Rp}{T:TypeId}(h:w.heap[N]?=some (.cells r.arr T (0,0)))(hk:k<r.cells.length)(c:aw):(w.setCells N (1+k*3) c.cells.toList).heap[N]?=some (.cells (Rp.mk r.floor (r.cells.set k c)).arr T (0,0)):=by rw[cd c.cells.toList _ _ _ h];have:=Rp.set r c hk;rw[<-this];congr 2;apply Array.toList_inj.1;simp[eK,Array.toList_setIfInBounds]
theorem PG.setR{w wx:World}{G i:Nat}{h:Gp}(f:PG w G h wx)(hi:i<3){r:Rp}(hr:r.cells.length=8):PG w G (h.setR i r) (wx.setCells G (i*25) r.arr.toList) :=
 ⟨f.keeps.trans (ac.setCells (S:=(·=G)) rfl r.arr.toList (i*25) wx wx (ac.refl _ _)),f.ok.setR i hr,nJ f.hG f.ok (by rw[f.ok.r3]; exact hi) hr⟩
theorem vz(g:Gp)(epoch:Int)(i G:Nat)(w:World)(hg:g.ok)(Js:i<3)(h:w.heap[G]?=some (.cells g.arr 97 (0,0))) : Calls Tryz.prog 67 #[.pointer (some ⟨G,0,none⟩),.int .i64 epoch,.int .i64 i] w λe w'=>e=.returned (.bool (g.syncs epoch i))/\PG w G (g.sync epoch i) w':=by
 have F0:=Hs (PG w G g w) (⟨ac.refl _ _,hg,h⟩);have lB:G<w.heap.size:=F0.out.lt
 have hti:(i:Int)<3:=by omega
 have Jx:i<g.r.length:=by rw[hg.r3]; exact Js
 have JX:i<g.u.length:=by rw[hg.u3]; exact Js
 clear hg h;go_enter Tryz.func67,Tryz.ntmps67
 go_wp2_with fail;refine(fN g epoch G _ F0.out.ok F0.out.hG).mono ?_;rintro e w2 ⟨a2,c2,rfl,ec,b2⟩;have F2:=Hx (F0.out.over b2);have HI:=Hx ec.hi;have ML:=Hx (g.mem_len epoch 3);obtain⟨m,hm⟩:=Nm ((g.mem epoch).length);have GOK:=Hx F0.out.ok;have NW:=Hx (λ(k:Nat) (LZ:k<8) w' (h:w'.heap[G]?=some (.cells g.arr 97 (0,0))) (hi:fB 0 w' a2 (g.mem epoch))=>o5 g (g.mem epoch) a2 c2 k G w' GOK.out LZ ML.out (λj h=>lD j h) hi h);rw[hm]at NW ⊢;have HM:=Hx hm;have hm3:m<=3:=hm▸ML.out;clear hm b2 F0 ec ML;obtain⟨u0,-⟩:=ju F2.out.hG F2.out.ok JX;obtain⟨f0,-⟩:=ee F2.out.hG F2.out.ok Jx;obtain⟨U,hU⟩:=Nm (g.u[i]);obtain⟨F,hF⟩:=Nm (g.r[i].floor);rw[hU]at u0;rw[hF]at f0;have HS:=Hs (g.syncs epoch i=(U && decide (2<=m) && decide (F<epoch))) (by unfold Gp.syncs; rw[<-hU,<-hF,<-HM.out]; simp[JX,Jx]);clear hU hF Jx JX;cases U
 .have HN:=Hs (g.sync epoch i=g/\g.syncs epoch i=false) (by unfold Gp.sync; rw[HS.out]; exact⟨rfl,rfl⟩);clear f0;go_wp2;go_ret;exact⟨by rw[HN.out.2]; rfl,by rw[HN.out.1]; exact F2.out⟩
 by_cases hm2:m<2
 .have HN:=Hs (g.sync epoch i=g/\g.syncs epoch i=false) (by unfold Gp.sync; rw[HS.out,show decide (2<=m)=false from by simp; omega]; exact⟨rfl,rfl⟩);clear f0;go_wp2;go_ret;exact⟨by rw[HN.out.2]; rfl,by rw[HN.out.1]; exact F2.out⟩
 by_cases hfe:epoch<=F
 .have HN:=Hs (g.sync epoch i=g/\g.syncs epoch i=false) (by unfold Gp.sync; rw[HS.out,show decide (F<epoch)=false from by simp; omega]; simp)
  have hd2:decide ((m:Int)<2)=false:=by simp; omega
  go_wp2;go_ret;exact⟨by rw[HN.out.2]; rfl,by rw[HN.out.1]; exact F2.out⟩
 have HN:=Hs (g.sync epoch i=g.setR i ⟨epoch,bV (g.frm epoch)⟩/\g.syncs epoch i=true) (by
  have:g.syncs epoch i=true:=by rw[HS.out]; simp; omega
  exact⟨if_pos this,this⟩)
 have hd2:decide ((m:Int)<2)=false:=by simp; omega
 have hdf:decide (epoch<=F)=false:=by simp; omega
 obtain⟨M,hM⟩:=Nm (bV (g.frm epoch));have M8:=Hs (M.length=8) (hM▸gq _);have MG:=Hs (∀k,k<8->bK k (g.some (g.mem epoch))=M.getD k aw.zero) (λk hk=>by rw[<-hM,iQ _ k hk]; rfl);rw[hM]at HN;clear hM HS hm2 hfe;obtain⟨Z0,hZ0⟩:=Nm (Rp.mk epoch du);have BR:=Hs (Tryz.prog.built 94 [(0,.int .i64 epoch)]=some Z0.arr) (hZ0▸CY epoch);have ZZ:=Hs (Z0.arr.size=25) (hZ0▸Rp.size rfl);have HZ0:=Hx hZ0;clear hZ0;have AN:=Hs ((w2.alloc (.cells Rp.zero.arr 94)).heap[w2.heap.size]?=some (.cells Rp.zero.arr 94 (0,0))) (heap_alloc_new _ _);go_upto_region 5 with (first|((with_reducible refine wT rfl 94 _ rfl ?_); refine⟨[(0,.int .i64 epoch)],Z0.arr,rfl,BR.out,?_⟩)|((with_reducible refine cu rfl 94 _ _ rfl ?_); refine⟨w2.heap.size,_,Z0.arr,_,rfl,rfl,AN.out,by rw[rL.2,ZZ.out],by rw[ZZ.out]; rfl,Rp.one _,?_⟩));obtain⟨w4,Iq⟩:=Nn ((w2.alloc (.cells Rp.zero.arr 94)).setRow w2.heap.size Z0.arr);have b4:Below w2.heap.size w2 w4:=Iq▸nL w2 _ _ _;have N4:=Hs (w4.heap[w2.heap.size]?=some (.cells (Rp.mk epoch (upTo M 0)).arr 94 (0,0))) (by rw[yc,HZ0.out,Iq]; exact setRow_heap _ _ _ _ _ _ AN.out);rw[cA]at Iq;rw[<-Iq];have F4:=Hx (F2.out.over b4);have I4:=Hs (fB 0 w4 a2 (g.mem epoch)) ((HI.out.keeps (ac.of_below (S:=λ_=>False) b4) (λ_ h=>h.elim)).mono (Nat.zero_le _));have hN2:w.heap.size<=w2.heap.size:=F2.out.keeps.size;clear Iq b4 F2 AN f0 u0;obtain⟨N,hNN⟩:=Nm w2.heap.size;rw[hNN]at N4 hN2;rw[hNN]
 have HLO:=Hs (∀j (h:j<(g.mem epoch).length),∃b o,a2=some ⟨b,o,none⟩/\b<N) (λj h=>by
  obtain⟨b,o,e,_,h2,_⟩:=HI.out j h
  exact⟨b,o,e,hNN▸h2⟩)
 clear hNN HI
 have hN4:N<w4.heap.size:=(Gl N4.out)
 go_wp2;go_loopw [9,38] (λi _ wr=>∃j:Nat,j<=8/\i=.int .i64 j/\wr.heap[N]?=some (.cells (Rp.mk epoch (upTo M j)).arr 94 (0,0))/\ac (·=N) w4 wr) (λi _ _=>8 - (intOf i).toNat)
 case atStart=>exact⟨0,by omega,rfl,N4.out,ac.refl _ _⟩
 case round =>
  obtain⟨j,hj,rfl,hn,kp⟩:=hrel;have HNB:=Hx hn;have KP:=Hx kp;have FR:=Hx (F4.out.side hN2 lB kp);clear hn kp;by_cases Ll:j<8
  .have HIR:=Hs (fB 0 wr a2 (g.mem epoch)) (λq hq=>by
    obtain⟨b,o,e,h0,h1,h2⟩:=I4.out q hq;obtain⟨b',o',e',hb⟩:=HLO.out q hq
    obtain⟨rfl,rfl⟩:b=b'/\o=o':=by rw[e]at e'; simpa using e'
    exact⟨b,o,e,h0,Nat.lt_of_lt_of_le h1 KP.out.size,(KP.out.cell (by omega) h1).trans h2⟩)
   have NW2:=Hx (NW.out j Ll _ FR.out.hG HIR.out);obtain⟨c,hc⟩:=Nm (bK j (g.some (g.mem epoch)));have HU:=Hs ((upTo M j).set j c=upTo M (j+1)) (by rw[<-hc,MG.out j Ll]; exact Ab M8.out Ll);rw[hc]at NW2;clear hc
   have hji:(j:Int)<8:=by omega
   go_wp2_with fail;refine NW2.out.mono ?_;rintro e w5 ⟨rfl,b5⟩;have HN5:=Hx ((b5.block _ (Gl HNB.out)).trans HNB.out);have K5:=Hx (KP.out.trans (ac.of_below b5));have TH:=Hx (yq HN5.out (tf M8.out (Nat.le_of_lt Ll)) Ll)
   have SC:=Hs ((w5.setCells N (1+j*3) c.cells.toList).heap[N]?=some (.cells (Rp.mk epoch (upTo M (j+1))).arr 94 (0,0))) (by rw[<-HU.out]; exact DR HN5.out (by show j<(upTo M j).length; rw[tf M8.out (Nat.le_of_lt Ll)]; exact Ll) c)
   have KS:=Hx (ac.setCells (S:=(·=N)) rfl c.cells.toList (1+j*3) _ w5 K5.out);clear b5 NW2;go_wp2_with ((with_reducible refine eZ rfl 62 _ _ rfl ?_); refine⟨N,1+j*3,c.cells,rfl,rfl,TH.out,au.2,eQ _,?_⟩);go_roundw
   case rel=>exact⟨j+1,by omega,by go_num,SC.out,KS.out⟩
   case measure=>simp[intOf]; omega
  .obtain rfl:j=8:=by omega
   obtain⟨Y,hY⟩:=Nm (Rp.mk epoch M);have HY:=Hs (wr.heap[N]?=some (.cells Y.arr 94 (0,0))) (by have:=HNB.out; rwa [Ad M8.out,hY]at this);have Y8:=Hs (Y.cells.length=8) (hY▸M8.out);rw[hY]at HN;clear hY HNB;have ZY:=Hx (Rp.size Y8.out);go_wp2_with fail;refine lq 6 (by kernel_rfl) (by kernel_rfl) ?_;intro wd IB hwh;have RD:=Hx (FR.out.over IB);have YD:=Hx ((IB.block _ (Gl HY.out)).trans HY.out);have TH:=Hs (wd.there G (i*25) Y.arr.size) (by rw[ZY.out]; exact(eO RD.out.hG RD.out.ok (by rw[RD.out.ok.r3]; exact Js)).2);have FS:=Hx (RD.out.setR Js Y8.out);clear IB hwh;simp only[List.take_succ_cons,List.take_zero,List.drop_succ_cons,List.drop_zero]
   repeat(first|still_step | (refine l7 rfl 94 _ rfl N rfl 94 Y.arr (0,0) _ YD.out rL.1 rfl (by rw[rL.2,ZY.out]) ?_))
   refine wpStill_nil ?_;go_wp2_with ((with_reducible refine eZ rfl 94 _ _ rfl ?_); refine⟨G,i*25,Y.arr,rfl,rfl,TH.out,by rw[rL.2,ZY.out],Rp.one _,?_⟩);go_ret;exact⟨by rw[HN.out.2]; rfl,by rw[HN.out.1]; exact FS.out⟩
