import Derived.Test.YtjalgpcigojpkaaGreatDoorQ11
import Derived.Great.BuildSlice
set_option maxRecDepth 99999
set_option maxHeartbeats 99999999
namespace Go.Proofs.YtjalgpcigojpkaaGreatDoor
section
open Go.RowKit Go.Sort
structure GF (w:World) (h:Gp) (wx:World):Prop where
 below:Below w.heap.size w wx
 ok:h.ok
 hG:wx.heap[w.heap.size]?=some (.cells h.arr 69 (0,0))
 hZ:wx.heap[w.heap.size+1]?=some (.cells Gp.zero.arr 69 (0,0))
theorem GF.lt{w wx:World}{h:Gp}(f:GF w h wx):w.heap.size+1<wx.heap.size:=(Gl f.hZ)
theorem GF.over{w wx w':World}{h:Gp}(f:GF w h wx)(b:Below wx.heap.size wx w'):GF w h w' :=
 ⟨f.below.trans (b.mono f.below.size),f.ok,(b.block _ (by have:=f.lt; omega)).trans f.hG,(b.block _ f.lt).trans f.hZ⟩
theorem GF.setR{w wx:World}{h:Gp}(f:GF w h wx){i:Nat}(hi:i<3){r:Rp}(hr:r.cells.length=8):GF w (h.setR i r) (wx.setCells w.heap.size (i*25) r.arr.toList):=by have kp:=ac.setCells (S:=(·=w.heap.size)) rfl r.arr.toList (i*25) wx wx (ac.refl _ _);exact⟨f.below.trans (kp.below f.below.size (λm hm=>by omega)),f.ok.setR i hr,nJ f.hG f.ok (by rw[f.ok.r3]; exact hi) hr,(kp.block _ (by omega) f.lt).trans f.hZ⟩
theorem GF.done{w wx:World}{h:Gp}(f:GF w h wx)(cs:Array Value):Below w.heap.size w (wx.setRow (w.heap.size+1) cs) :=
 f.below.trans (((ac.refl (·=w.heap.size+1) wx).setRow rfl _).below f.below.size (λm hm=>by omega))
def Gp.fenceTo(g:Gp)(epoch:Int):Nat->Gp
 | 0=>g
 | k+1=>if g.u.getD k false then(g.fenceTo epoch k).setR k (((g.fenceTo epoch k).r.getD k Rp.zero).fence epoch) else g.fenceTo epoch k
def Gp.fence(g:Gp)(epoch:Int):Gp:=if 2<=(g.mem (epoch - 1)).length then g.fenceTo epoch 3 else g
theorem Rp.fence_len(r:Rp)(epoch:Int):(r.fence epoch).cells.length=r.cells.length:=by unfold Rp.fence; split<;>rfl
theorem Gp.fenceTo_u(g:Gp)(epoch:Int):∀k,(g.fenceTo epoch k).u=g.u
 | 0=>rfl
 | k+1=>by
  have ih:=Gp.fenceTo_u g epoch k;unfold Gp.fenceTo
  split
  .exact ih
  .exact ih
theorem Gp.fenceTo_ok{g:Gp}(h:g.ok)(epoch:Int):∀k,k<=3->(g.fenceTo epoch k).ok
 | 0,_=>h
 | k+1,hk=>by
  have ih:=Gp.fenceTo_ok h epoch k (by omega);unfold Gp.fenceTo
  split
  .refine ih.setR k ?_;rw[Rp.fence_len]
   have hl:k<(g.fenceTo epoch k).r.length:=by rw[ih.r3]; omega
   simp only[List.getD_eq_getElem?_getD,List.getElem?_eq_getElem hl,Option.getD_some];exact ih.c8 _ (List.getElem_mem hl)
  .exact ih
theorem Gp.fence_ok{g:Gp}(h:g.ok)(epoch:Int):(g.fence epoch).ok:=by
 unfold Gp.fence; split
 .exact Gp.fenceTo_ok h epoch 3 (by omega)
 .exact h
theorem wm(g:Gp)(epoch:Int)(w:World)(hg:g.ok)(he:-4611686018427387904<=epoch/\epoch<=4611686018427387904) : Calls Tryz.prog 95 #[.agg g.arr,.int .i64 epoch] w λe w'=>e=.returned (.tuple #[.agg (g.fence epoch).arr,.bool (decide (2<=((g.fence epoch).mem epoch).length))])/\Below w.heap.size w w':=by
 have OK:=Hx hg;have Z:=Hx (Gp.size hg);have q1:IntKind.i64.wrap (epoch - 1)=epoch - 1:=IntWalk.i64_in _ (by omega);clear hg;go_enter Tryz.func95,Tryz.ntmps95
 go_upto_region 1 with fail;obtain⟨w1,pX⟩:=Nn ((w.alloc (.cells g.arr 69)).alloc (.cells Gp.zero.arr 69));rw[<-aS]at pX;rw[<-pX];rw[aS]at pX;have F1:=Hs (GF w g w1) (pX▸⟨(ay w _).alloc (by simp) _,OK.out,heap_alloc2_old w _ _,heap_alloc2_new w _ _⟩);clear pX;go_wp2_with ((with_reducible refine bU rfl 69 _ rfl ?_); refine⟨w.heap.size,_,g.arr,_,rfl,F1.out.hG,aj.1,rfl,by rw[aj.2,Z.out],?_⟩);refine(gR g _ _ OK.out).mono ?_;rintro e w2 ⟨a2,c2,rfl,-,b2⟩;have F2:=Hx (F1.out.over b2);obtain⟨m,hm⟩:=Nm ((g.mem (epoch - 1)).length);rw[hm];have HM:=Hx hm;clear hm b2 F1;obtain⟨B,hB⟩:=Nm (decide ((2:Int)<=(m:Int)));have Kt:=Hx hB;go_upto_if 12 with fail;clear hB;go_cut [12] (λ_ wx=>GF w (g.fence epoch) wx)
 case first =>
  cases B
  .have HF:=Hs (g.fence epoch=g) (if_neg (by rw[HM.out]; have:=Kt.out; simp at this; omega));go_wp2;go_meet;rw[HF.out];exact F2.out
  .have HF:=Hs (g.fence epoch=g.fenceTo epoch 3) (if_pos (by rw[HM.out]; have:=Kt.out; simp at this; omega));go_wp2;go_loopw [6,13] (λ_ i wr=>∃k:Nat,k<=3/\i=.int .i64 k/\GF w (g.fenceTo epoch k) wr) (λ_ i _=>3 - (intOf i).toNat)
   case atStart=>exact⟨0,by omega,rfl,F2.out⟩
   case round =>
    obtain⟨k,hk,rfl,gf⟩:=hrel;obtain⟨h,hh⟩:=Nm (g.fenceTo epoch k);rw[hh]at gf;have HU:=Hs (h.u=g.u) (hh▸g.fenceTo_u epoch k);have HS:=Hs (g.fenceTo epoch (k+1)=if g.u.getD k false then h.setR k ((h.r.getD k Rp.zero).fence epoch) else h) (by rw[<-hh]; rfl);have GFH:=Hx gf;have HH:=Hx hh;clear gf hh F2;by_cases Jo:k<3
    .have IE:k<h.r.length:=by rw[GFH.out.ok.r3]; exact Jo
     have Lx:k<h.u.length:=by rw[GFH.out.ok.u3]; exact Jo
     obtain⟨u0,-⟩:=ju GFH.out.hG GFH.out.ok Lx;obtain⟨U,hU⟩:=Nm (h.u[k]);rw[hU]at u0;have HUU:=Hs (g.u.getD k false=U) (by rw[<-HU.out,<-hU]; simp[Lx]);obtain⟨R,hR⟩:=Nm (h.r[k]);have RG:=Hs (wr.rangeAt w.heap.size (k*25) R.arr.toList) (hR▸(eO GFH.out.hG GFH.out.ok IE).1);have R8:=Hs (R.cells.length=8) (hR▸GFH.out.ok.c8 _ (List.getElem_mem IE));have Ny:=Hs (h.r.getD k Rp.zero=R) (by rw[<-hR]; simp[IE]);clear hR hU Lx IE;cases U
     .have HE:=Hs (g.fenceTo epoch (k+1)=h) (by rw[HS.out,HUU.out]; rfl);go_wp2;go_roundw
      case rel=>exact⟨k+1,by omega,by go_num,by rw[HE.out]; exact GFH.out⟩
      case measure=>simp[intOf]; omega
     .have HE:=Hs (g.fenceTo epoch (k+1)=h.setR k (R.fence epoch)) (by rw[HS.out,HUU.out,Ny.out]; rfl);have ZR:=Hx (Rp.size R8.out);go_wp2_with ((with_reducible refine lI rfl 65 _ rfl ?_); refine⟨w.heap.size,k*25,R.arr,_,rfl,RG.out,bu.1,rfl,by rw[bu.2.1,ZR.out],?_⟩);refine(zn R epoch _ R8.out he).mono ?_;rintro e w3 ⟨rfl,b3⟩;obtain⟨Y,hY⟩:=Nm (R.fence epoch);have Y8:=Hs (Y.cells.length=8) (by rw[<-hY,Rp.fence_len]; exact R8.out);rw[hY]at HE ⊢;have F3:=Hx (GFH.out.over b3);have ZY:=Hx (Rp.size Y8.out);have TH:=Hs (w3.there w.heap.size (k*25) Y.arr.size) (by rw[ZY.out]; exact(eO F3.out.hG F3.out.ok (by rw[F3.out.ok.r3]; exact Jo)).2);have F4:=Hx (F3.out.setR Jo Y8.out);clear hY b3 u0;go_wp2_with ((with_reducible refine eZ rfl 65 _ _ rfl ?_); refine⟨w.heap.size,k*25,Y.arr,rfl,rfl,TH.out,by rw[bu.2.1,ZY.out],Rp.one _,?_⟩);go_roundw
      case rel=>exact⟨k+1,by omega,by go_num,by rw[HE.out]; exact F4.out⟩
      case measure=>simp[intOf]; omega
    .obtain rfl:k=3:=by omega
     go_wp2;go_meet;rw[HF.out,HH.out];exact GFH.out
 case rest =>
  obtain⟨Y,hY⟩:=Nm (g.fence epoch);rw[hY]at hcut;have FC:=Hx hcut;have HY:=Hx hY;have ZY:=Hx (Gp.size hcut.ok);clear hcut F2 hY;go_wp2_with fail
  obtain⟨S,hS⟩:∃S:World->Prop,S=λw'=>w'.heap[w.heap.size]?=some (.cells Y.arr 69 (0,0)):=⟨_,rfl⟩
  have S1:∀w',S w'->w'.heap[w.heap.size]?=some (.cells Y.arr 69 (0,0)):=λw' h=>by rw[hS]at h; exact h
  have S2:∀w',w'.heap[w.heap.size]?=some (.cells Y.arr 69 (0,0))->S w':=λw' h=>by rw[hS]; exact h
  clear hS;refine wp_region_held_drew (S:=S) (by kernel_rfl) (S2 _ FC.out.hG) (λdT=>?_);refine wt 0 (.agg Y.arr) dT ?_ (hy:=cP (by rfl) 69 _ rfl w.heap.size rfl 69 Y.arr (0,0) _ S1 aj.1 rfl (by rw[aj.2,ZY.out]));go_simp;refine wt 1 (.agg Y.arr) dT ?_ (hy:=cP (by rfl) 69 _ rfl w.heap.size rfl 69 Y.arr (0,0) _ S1 aj.1 rfl (by rw[aj.2,ZY.out]));go_simp;refine wt 2 _ dT ?_;go_simp;refine wpAnyH_ready (rs:=[3]) (by kernel_rfl) (by simp) ?_;have FD:=Hs (GF w Y wc.drew) (FC.out.over (Below.refl _ _).drew);clear FC;refine AllReadyH.cons (o:=_) rfl (λK hK=>?_) AllReadyH.nil
  .go_simp;refine(gR Y epoch _ FD.out.ok).mono ?_;rintro e w7 ⟨a7,c7,rfl,-,b7⟩;have F7:=Hx (FD.out.over b7);obtain⟨n,hn⟩:=Nm ((Y.mem epoch).length);rw[hn];have HN:=Hx hn;clear hn b7 FD;refine hK.out _ _ (S2 _ F7.out.hG) (λIa=>?_);clear hK K;refine wt 4 _ Ia ?_;go_simp;refine wt 5 (.bool (decide ((2:Int)<=(n:Int)))) Ia ?_;go_simp;refine wpAnyH_ready (rs:=[6]) (by kernel_rfl) (by simp) ?_;refine AllReadyH.cons (o:=_) rfl (λK hK=>?_) AllReadyH.nil;refine aJ rfl 69 _ _ rfl (w.heap.size+1) Y.arr rfl rfl 69 Gp.zero.arr F7.out.hZ (by rw[aj.2,ZY.out]) (by rw[ZY.out]; rfl) (Gp.one _) ?_;refine hK.out _ _ (S2 _ ((setRow_other _ _ _ _ (by omega)).trans F7.out.hG)) (λID=>?_);clear hK K;go_simp;refine wpAnyH_ready (rs:=[7]) (by kernel_rfl) (by simp) ?_;refine AllReadyH.cons (o:=_) rfl (λK hK=>?_) AllReadyH.nil;go_simp;refine hK.out _ _ ID (λJi=>?_);clear hK K;refine wpAnyH_done (by kernel_rfl) ?_ _;go_wp2;refine bodyPost_ret (v:=.tuple #[.agg Y.arr,.bool (decide ((2:Int)<=(n:Int)))]) (aW Tryz.results95 _ _ (w.heap.size+1) 69 Y.arr (0,0) _ _ rfl rfl (setRow_heap _ _ _ _ _ _ F7.out.hZ) aj.1 rfl (by rw[aj.2,ZY.out])) rfl ?_;exact⟨by rw[HY.out,HN.out]; simp; omega,F7.out.done _⟩
theorem cD{P:Program}{ops:Array Oper}{S:World->Prop}{op:Oper}{a:Act}(hw:Region.wanted op (yielded ops a.tmps)=true)(ty:TypeId)(x:Operand)(ho:op.op=.load ty x)(b o:Nat)(hx:a.eval x=.pointer (some ⟨b,o,none⟩))(cs:Array Value)(d:TypeDesc)(hS:∀w,S w->w.rangeAt b o cs.toList)(hu:P.underlying ty=some d)(hd:d.isRow=true)(hi:(P.info? ty).map (·.size)=some cs.size):YieldsIf P ops S op (.agg cs) a:=by
 have:=yieldsIf_load_mid (ops:=ops) hw ty x ho b o hx cs.toList d hS hu hd (by simpa using hi);simpa using this
def iP (tt at':Int)(c:aw)(tag:Int):Array Value:=#[.int .i64 tt,.int .i64 at',.int .i64 c.e,.int .i64 c.n,.string c.d,.int .i64 tag]
theorem fQ{w:World}{b:Nat}{tt at' tag:Int}{c:aw}{T:TypeId}(h:w.heap[b]?=some (.cells (iP tt at' c tag) T (0,0))):w.cell? ⟨b,0,none⟩=some (.int .i64 tt)/\w.cell? ⟨b,1,none⟩=some (.int .i64 at')/\w.cell? ⟨b,2,none⟩=some (.int .i64 c.e)/\w.cell? ⟨b,3,none⟩=some (.int .i64 c.n)/\w.cell? ⟨b,4,none⟩=some (.string c.d):=by unfold iP at h;simp[World.cell?,h]
def Gp.deliver(g:Gp)(tt at':Nat)(c:aw):Gp:=if g.u.getD tt false then g.setR tt ((g.r.getD tt Rp.zero).admitC at' c) else g
def Gp.delivers(g:Gp)(tt:Nat)(c:aw):Bool:=g.u.getD tt false && decide (c.e=(g.r.getD tt Rp.zero).floor)
theorem Gp.getR{g:Gp}(h:g.ok){i:Nat}(hi:i<3):(g.r.getD i Rp.zero).cells.length=8:=by
 have hl:i<g.r.length:=by rw[h.r3]; exact hi
 simp only[List.getD_eq_getElem?_getD,List.getElem?_eq_getElem hl,Option.getD_some];exact h.c8 _ (List.getElem_mem hl)
theorem Gp.deliver_ok{g:Gp}(h:g.ok){tt at':Nat}(ht:tt<3)(c:aw):(g.deliver tt at' c).ok:=by
 unfold Gp.deliver
 split
 .exact h.setR tt (by rw[Rp.admit_len]; exact Gp.getR h ht)
 .exact h
structure DF (w:World) (h:Gp) (cs:Array Value) (wx:World):Prop where
 below:Below w.heap.size w wx
 ok:h.ok
 hG:wx.heap[w.heap.size]?=some (.cells h.arr 69 (0,0))
 hM:wx.heap[w.heap.size+1]?=some (.cells cs 124 (0,0))
 hZ:wx.heap[w.heap.size+1+1]?=some (.cells Gp.zero.arr 69 (0,0))
theorem DF.lt{w wx:World}{h:Gp}{cs:Array Value}(f:DF w h cs wx):w.heap.size+1+1<wx.heap.size:=(Gl f.hZ)
theorem DF.over{w wx w':World}{h:Gp}{cs:Array Value}(f:DF w h cs wx)(b:Below wx.heap.size wx w'):DF w h cs w' :=
 ⟨f.below.trans (b.mono f.below.size),f.ok,(b.block _ (by have:=f.lt; omega)).trans f.hG,(b.block _ (by have:=f.lt; omega)).trans f.hM,(b.block _ f.lt).trans f.hZ⟩
theorem DF.setR{w wx:World}{h:Gp}{cs:Array Value}(f:DF w h cs wx){i:Nat}(hi:i<3){r:Rp}(hr:r.cells.length=8):DF w (h.setR i r) cs (wx.setCells w.heap.size (i*25) r.arr.toList):=by have kp:=ac.setCells (S:=(·=w.heap.size)) rfl r.arr.toList (i*25) wx wx (ac.refl _ _);have:=f.lt;exact⟨f.below.trans (kp.below f.below.size (λm hm=>by omega)),f.ok.setR i hr,nJ f.hG f.ok (by rw[f.ok.r3]; exact hi) hr,(kp.block _ (by omega) (by omega)).trans f.hM,(kp.block _ (by omega) f.lt).trans f.hZ⟩
theorem DF.done{w wx:World}{h:Gp}{cs:Array Value}(f:DF w h cs wx)(cs':Array Value):Below w.heap.size w (wx.setRow (w.heap.size+1+1) cs') :=
 f.below.trans (((ac.refl (·=w.heap.size+1+1) wx).setRow rfl _).below f.below.size (λm hm=>by omega))
theorem DF.other{w wx:World}{h:Gp}{cs:Array Value}(f:DF w h cs wx){V:Nat}(hV:w.heap.size+1+1<V)(cs':Array Value):DF w h cs (wx.setRow V cs'):=by have kp:=(ac.refl (·=V) wx).setRow (g:=V) rfl cs';have:=f.lt;exact⟨f.below.trans (kp.below f.below.size (λm hm=>by omega)),f.ok,(kp.block _ (by omega) (by omega)).trans f.hG,(kp.block _ (by omega) (by omega)).trans f.hM,(kp.block _ (by omega) f.lt).trans f.hZ⟩
theorem sx(g:Gp)(tt at':Nat)(c:aw)(tag:Int)(w:World)(hg:g.ok)(hto:tt<3)(Iw:at'<8) : Calls Tryz.prog 62 #[.agg g.arr,.agg #[.int .i64 tt,.int .i64 at',.int .i64 c.e,.int .i64 c.n,.string c.d,.int .i64 tag]] w λe w'=>e=.returned (.tuple #[.agg (g.deliver tt at' c).arr,.bool (g.delivers tt c)])/\Below w.heap.size w w':=by
 have OK:=Hx hg;have Z:=Hx (Gp.size hg)
 have hti:decide ((tt:Int)<3)=true:=by simp; omega
 have Jx:tt<g.r.length:=by rw[hg.r3]; exact hto
 have JX:tt<g.u.length:=by rw[hg.u3]; exact hto
 clear hg;go_enter Tryz.func62,Tryz.ntmps62
 go_upto_region 1 with fail;obtain⟨w1,pX⟩:=Nn (((w.alloc (.cells g.arr 69)).alloc (.cells (iP tt at' c tag) 124)).alloc (.cells Gp.zero.arr 69));have Jf:=pX;rw[<-aS]at pX;unfold iP at pX;rw[<-pX];clear pX;have F1:=Hs (DF w g (iP tt at' c tag) w1) (Jf▸⟨C6 w _ _ _,OK.out,(aO w _ _ _).1,(aO w _ _ _).2.1,(aO w _ _ _).2.2⟩);clear Jf;obtain⟨m0,m1,m2,m3,m4⟩:=fQ F1.out.hM;obtain⟨u0,-⟩:=ju F1.out.hG F1.out.ok JX;obtain⟨U,hU⟩:=Nm (g.u[tt]);rw[hU]at u0;obtain⟨R,hR⟩:=Nm (g.r[tt]);have R8:=Hs (R.cells.length=8) (hR▸OK.out.c8 _ (List.getElem_mem Jx));have RG:=Hs (∀w':World,w'.heap[w.heap.size]?=some (.cells g.arr 69 (0,0))->w'.rangeAt w.heap.size (tt*25) R.arr.toList) (λw' h=>hR▸(eO h OK.out Jx).1)
 have HD:=Hs (g.deliver tt at' c=(if U then g.setR tt (R.admitC at' c) else g)/\g.delivers tt c=(U && decide (c.e=R.floor))) (by
  unfold Gp.deliver Gp.delivers;rw[<-hU,<-hR]
  simp[Jx,JX])
 clear hU hR Jx JX;cases U
 .go_wp2_with (first|((with_reducible refine bU rfl 69 _ rfl ?_); refine⟨w.heap.size,_,g.arr,_,rfl,F1.out.hG,aj.1,rfl,by rw[aj.2,Z.out],?_⟩)|((with_reducible refine cu rfl 69 _ _ rfl ?_); refine⟨w.heap.size+1+1,_,g.arr,_,rfl,rfl,F1.out.hZ,by rw[aj.2,Z.out],by rw[Z.out]; rfl,Gp.one _,?_⟩));refine bodyPost_ret (v:=.tuple #[.agg g.arr,.bool false]) (aW Tryz.results62 _ _ (w.heap.size+1+1) 69 g.arr (0,0) _ _ rfl rfl (setRow_heap _ _ _ _ _ _ F1.out.hZ) aj.1 rfl (by rw[aj.2,Z.out])) rfl ?_;exact⟨by rw[HD.out.1,HD.out.2]; rfl,F1.out.done _⟩
 .go_upto_region 3 with fail;obtain⟨Y,hY⟩:=Nm (R.admitC at' c);obtain⟨X,hX⟩:=Nm (decide (c.e=R.floor));have Y8:=Hs (Y.cells.length=8) (by rw[<-hY,Rp.admit_len]; exact R8.out);have HE:=Hs (g.deliver tt at' c=g.setR tt Y/\g.delivers tt c=X) (by rw[HD.out.1,HD.out.2,hY,hX]; exact⟨rfl,rfl⟩);have AD:=Hx (λ(w:World)=>EJ R at' at' rfl c w R8.out Iw Y hY X hX);have ZR:=Hx (Rp.size R8.out);have ZY:=Hx (Rp.size Y8.out);clear hY hX u0;go_cut [6,7] (λv6 v7 wx=>∃V,v6=.pointer (some ⟨V,0,none⟩)/\v7=.bool X/\w.heap.size+1+1<V/\wx.heap[V]?=some (.cells Y.arr 65 (0,0))/\DF w g (iP tt at' c tag) wx)
  case first =>
   obtain⟨S,hS⟩:∃S:World->Prop,S=λw'=>DF w g (iP tt at' c tag) w':=⟨_,rfl⟩
   have S1:∀w',S w'->w'.heap[w.heap.size]?=some (.cells g.arr 69 (0,0)):=λw' h=>by rw[hS]at h; exact h.hG
   have S2:∀w',S w'->w'.heap[w.heap.size+1]?=some (.cells (iP tt at' c tag) 124 (0,0)):=λw' h=>by rw[hS]at h; exact h.hM
   have S3:∀w',DF w g (iP tt at' c tag) w'->S w':=λw' h=>by rw[hS]; exact h
   have S4:∀w',S w'->DF w g (iP tt at' c tag) w':=λw' h=>by rw[hS]at h; exact h
   clear hS m0 m1 m2 m3 m4;refine wp_region_held_drew (S:=S) (by kernel_rfl) (S3 _ (F1.out.over (Below.refl _ _).drew)) (λdT=>?_);refine wt 0 _ dT ?_;go_simp;refine wt 1 (.int .i64 tt) dT ?_ (hy:=Or.inl ⟨by rfl,λw' sT=>by obtain⟨m0,m1,m2,m3,m4⟩:=fQ (S2 w' sT); go_simp⟩);go_simp;refine wt 2 _ dT ?_;go_simp;refine wt 3 (.pointer (some ⟨w.heap.size,tt*25,none⟩)) dT ?_ (hy:=Or.inl ⟨by rfl,λw' sT=>by go_simp; intro h; omega⟩);go_simp;refine wt 4 (.agg R.arr) dT ?_ (hy:=cD (by rfl) 65 _ rfl w.heap.size (tt*25) rfl R.arr _ (λw' h=>RG.out w' (S1 w' h)) bu.1 rfl (by rw[bu.2.1,ZR.out]));go_simp;refine wt 5 _ dT ?_;go_simp;refine wt 6 (.int .i64 at') dT ?_ (hy:=Or.inl ⟨by rfl,λw' sT=>by obtain⟨m0,m1,m2,m3,m4⟩:=fQ (S2 w' sT); go_simp⟩);go_simp;refine wt 7 _ dT ?_;go_simp;refine wt 8 (.agg #[.int .i64 c.e,.int .i64 c.n,.string c.d]) dT ?_ (hy:=Or.inl ⟨by rfl,λw' sT=>by obtain⟨m0,m1,m2,m3,m4⟩:=fQ (S2 w' sT); go_simp⟩);go_simp;refine wpAnyH_ready (rs:=[9,13]) (by kernel_rfl) (by simp) ?_;refine AllReadyH.cons (o:=_) rfl (λK hK=>?_) (AllReadyH.cons (o:=_) rfl (λK hK=>?_) AllReadyH.nil)
   .go_simp;refine(AD.out _).mono ?_;rintro e w7 ⟨rfl,b7⟩;have F7:=Hx ((S4 _ dT).over b7);have hz7:w1.heap.size<=w7.heap.size:=b7.size;refine hK.out _ _ (S3 _ F7.out) (λIa=>?_);clear hK K b7;refine wt 10 _ Ia ?_;go_simp;refine wt 11 _ Ia ?_;go_simp;refine wt 12 _ Ia ?_;go_simp;refine wpAnyH_ready (rs:=[13]) (by kernel_rfl) (by simp) ?_;refine AllReadyH.cons (o:=_) rfl (λK hK=>?_) AllReadyH.nil;go_simp;have HV:=Hs ((w7.alloc (.cells Rp.zero.arr 65)).heap[w7.heap.size]?=some (.cells Rp.zero.arr 65 (0,0))) (heap_alloc_new _ _);have F8:=Hx (F7.out.over (ay w7 (.cells Rp.zero.arr 65)));obtain⟨w8,IU⟩:=Nn (w7.alloc (.cells Rp.zero.arr 65));rw[<-IU]at HV F8;rw[cA]at IU;rw[<-IU];clear IU;refine hK.out _ _ (S3 _ F8.out) (λID=>?_);clear hK K;refine wpAnyH_ready (rs:=[14]) (by kernel_rfl) (by simp) ?_;refine AllReadyH.cons (o:=_) rfl (λK hK=>?_) AllReadyH.nil;refine aJ rfl 65 _ _ rfl w7.heap.size Y.arr rfl rfl 65 Rp.zero.arr HV.out (by rw[bu.2.1,ZY.out]) (by rw[ZY.out]; rfl) (Rp.one _) ?_;refine hK.out _ _ (S3 _ (F8.out.other (by have:=F7.out.lt; omega) Y.arr)) (λJi=>?_);clear hK K;go_simp;refine wpAnyH_ready (rs:=[15]) (by kernel_rfl) (by simp) ?_;refine AllReadyH.cons (o:=_) rfl (λK hK=>?_) AllReadyH.nil;go_simp;refine hK.out _ _ Ji (λIM=>?_);clear hK K;refine wpAnyH_done (by kernel_rfl) ?_ _;go_wp2_with fail;go_meet;exact⟨w7.heap.size,rfl,rfl,by have:=F7.out.lt; omega,setRow_heap _ _ _ _ _ _ HV.out,S4 _ IM⟩
   .go_simp;have HV:=Hs ((w1.alloc (.cells Rp.zero.arr 65)).drew.heap[w1.heap.size]?=some (.cells Rp.zero.arr 65 (0,0))) (heap_alloc_new _ _);have F2:=Hs (DF w g (iP tt at' c tag) (w1.alloc (.cells Rp.zero.arr 65)).drew) (F1.out.over (ay w1 (.cells Rp.zero.arr 65)).drew);have hV:w.heap.size+1+1<w1.heap.size:=F1.out.lt;obtain⟨V,hVV⟩:=Nm w1.heap.size;obtain⟨w8,IU⟩:=Nn ((w1.alloc (.cells Rp.zero.arr 65)).drew);rw[<-IU]at HV F2;rw[cA]at IU;rw[<-IU];clear IU;rw[hVV]at HV hV ⊢;clear hVV;refine hK.out _ _ (S3 _ F2.out) (λIa=>?_);clear hK K;refine wpAnyH_ready (rs:=[9]) (by kernel_rfl) (by simp) ?_;refine AllReadyH.cons (o:=_) rfl (λK hK=>?_) AllReadyH.nil;go_simp;refine(AD.out _).mono ?_;rintro e w7 ⟨rfl,b7⟩;have F7:=Hx (F2.out.over b7);have HV7:=Hx ((b7.block _ (Gl HV.out)).trans HV.out);refine hK.out _ _ (S3 _ F7.out) (λID=>?_);clear hK K b7;refine wt 10 _ ID ?_;go_simp;refine wt 11 _ ID ?_;go_simp;refine wt 12 _ ID ?_;go_simp;refine wpAnyH_ready (rs:=[14]) (by kernel_rfl) (by simp) ?_;refine AllReadyH.cons (o:=_) rfl (λK hK=>?_) AllReadyH.nil;refine aJ rfl 65 _ _ rfl V Y.arr rfl rfl 65 Rp.zero.arr HV7.out (by rw[bu.2.1,ZY.out]) (by rw[ZY.out]; rfl) (Rp.one _) ?_;refine hK.out _ _ (S3 _ (F7.out.other hV Y.arr)) (λJi=>?_);clear hK K;go_simp;refine wpAnyH_ready (rs:=[15]) (by kernel_rfl) (by simp) ?_;refine AllReadyH.cons (o:=_) rfl (λK hK=>?_) AllReadyH.nil;go_simp;refine hK.out _ _ Ji (λIM=>?_);clear hK K;refine wpAnyH_done (by kernel_rfl) ?_ _;go_wp2_with fail;go_meet;exact⟨V,rfl,rfl,hV,setRow_heap _ _ _ _ _ _ HV7.out,S4 _ IM⟩
  case rest =>
   obtain⟨V,rfl,rfl,hV,hc,f⟩:=hcut;obtain⟨m0,-⟩:=fQ f.hM;have FD:=Hx f;have HC:=Hx hc;have TH:=Hs (wc.there w.heap.size (tt*25) Y.arr.size) (by rw[ZY.out]; exact(eO FD.out.hG FD.out.ok (by rw[FD.out.ok.r3]; exact hto)).2);have F4:=Hx (f.setR hto Y8.out);obtain⟨G,hG⟩:=Nm (g.setR tt Y);rw[hG]at F4 HE;have ZG:=Hx (Gp.size F4.out.ok);clear f hc hG F1;go_wp2_with (first|((with_reducible refine bU rfl 65 _ rfl ?_); refine⟨V,_,Y.arr,_,rfl,HC.out,bu.1,rfl,by rw[bu.2.1,ZY.out],?_⟩)|((with_reducible refine eZ rfl 65 _ _ rfl ?_); refine⟨w.heap.size,tt*25,Y.arr,rfl,rfl,TH.out,by rw[bu.2.1,ZY.out],Rp.one _,?_⟩)|((with_reducible refine bU rfl 69 _ rfl ?_); refine⟨w.heap.size,_,G.arr,_,rfl,F4.out.hG,aj.1,rfl,by rw[aj.2,ZG.out],?_⟩)|((with_reducible refine cu rfl 69 _ _ rfl ?_); refine⟨w.heap.size+1+1,_,G.arr,_,rfl,rfl,F4.out.hZ,by rw[aj.2,ZG.out],by rw[ZG.out]; rfl,Gp.one _,?_⟩));refine bodyPost_ret (v:=.tuple #[.agg G.arr,.bool X]) (aW Tryz.results62 _ _ (w.heap.size+1+1) 69 G.arr (0,0) _ _ rfl rfl (setRow_heap _ _ _ _ _ _ F4.out.hZ) aj.1 rfl (by rw[aj.2,ZG.out])) rfl ?_;exact⟨by rw[HE.out.1,HE.out.2],F4.out.done _⟩
section
variable {P:Program} {ops:Array Oper} {rest:List Oper} {op:Oper} {a:Act} {w:World} {Q:Exit->Act->World->Prop}
theorem wT(I9:op.guard=none)(t:TypeId)(parts:Array (Nat × Operand))(ho:op.op=.build t parts)(h:∃(l:List (Nat × Value)) (cells:Array Value),parts.toList.map (λp=>(p.1,a.eval p.2))=l/\P.built t l=some cells/\wpList P ops Q rest (a.put op.dst (.agg cells)) w):wpList P ops Q (op :: rest) a w:=by
 obtain⟨l,cells,h1,h2,h3⟩:=h;refine wpList_plain I9 λ_ hK=>?_
 have hb:P.built t (parts.map λ(i,x)=>(i,a.eval x)).toList=some cells:=by rw[Array.toList_map,<-h2,<-h1]
 unfold Oper.wp execOp;simp only[ho,Sem.run_bind,run_build w t _ _ hb,Result.andThen_ok];exact hK _ _ h3
theorem G3(I9:op.guard=none)(t:TypeId)(len:Nat)(parts:Array (Nat × Operand))(ho:op.op=.buildSlice t len parts)
  (h:∃(e:TypeId) (l:List (Nat × Value)) (cells:Array Value) (ie:TypeInfo) (z:Value),parts.toList.map (λp=>(p.1,a.eval p.2))=l/\P.underlying t=some (.slice e)/\P.info? e=some ie/\ie.zero=some z/\¬ len*ie.size > 2 ^ 24/\¬ len*ie.size=0 /\
   Instr.fill (λi=>some (i*ie.size,ie.size)) ((Array.range (len*ie.size)).map (z.cells[· % z.cells.size]!)) l=some cells /\
   wpList P ops Q rest (a.put op.dst (.slice (some ⟨w.heap.size,0,none⟩) len len)) (w.alloc (.cells cells e))):wpList P ops Q (op :: rest) a w:=by
 obtain⟨e,l,cells,ie,z,h1,h2,h3,h4,h5,h6,h7,h8⟩:=h;refine wpList_buildSlice I9 t e len parts ho cells ie z h2 h3 h4 h5 h6 ?_ h8;rw[Array.toList_map,<-h7,<-h1]
end
theorem CZ(f:Int)(cs:List aw)(h:cs.length=8):Tryz.prog.built 65 [(0,.int .i64 f),(1,.agg (flat cs).toArray)]=some (Rp.mk f cs).arr:=by
 obtain⟨f',d0,d1,d2,d3,d4,d5,d6,d7,e⟩:=oK (Y:=⟨f,cs⟩) h;cases e
 kernel_rfl
theorem zm(ie:TypeInfo)(z:Value)(hie:Tryz.prog.info? 65=some ie)(hz:ie.zero=some z)(r:Rp)(h:r.cells.length=8):Instr.fill (λi=>some (i*ie.size,ie.size)) ((Array.range (1*ie.size)).map (z.cells[· % z.cells.size]!)) [(0,.agg r.arr)]=some r.arr:=by
 obtain⟨f,d0,d1,d2,d3,d4,d5,d6,d7,rfl⟩:=oK h
 have:∀x:TypeInfo,Tryz.prog.info? 65=some x->∀z,x.zero=some z->Instr.fill (λi=>some (i*x.size,x.size)) ((Array.range (1*x.size)).map (z.cells[· % z.cells.size]!)) [(0,.agg (Rp.mk f [d0,d1,d2,d3,d4,d5,d6,d7]).arr)]=some (Rp.mk f [d0,d1,d2,d3,d4,d5,d6,d7]).arr:=by
  have key:(Tryz.prog.info? 65).bind (λx=>x.zero.bind (λz=>Instr.fill (λi=>some (i*x.size,x.size)) ((Array.range (1*x.size)).map (z.cells[· % z.cells.size]!)) [(0,.agg (Rp.mk f [d0,d1,d2,d3,d4,d5,d6,d7]).arr)]))=some (Rp.mk f [d0,d1,d2,d3,d4,d5,d6,d7]).arr:=by kernel_rfl
  intro x hx z hz;rw[hx]at key;simpa[hz] using key
 exact this ie hie z hz
theorem rM:∃ie z,Tryz.prog.info? 65=some ie/\ie.zero=some z/\ie.size=25/\ie.bytes=264/\z.cells.size=25:=by
 have key:(Tryz.prog.info? 65).bind (λie=>ie.zero.map (λz=>(ie.size,ie.bytes,z.cells.size)))=some (25,264,25):=by kernel_rfl
 cases hi:Tryz.prog.info? 65 with
 | none=>rw[hi]at key; cases key
 | some ie =>
  rw[hi]at key
  cases hz:ie.zero with
  | none=>simp[hz]at key
  | some z=>simp[hz]at key; exact⟨ie,z,rfl,hz,key.1,key.2.1,key.2.2⟩
def pN (B:Nat)(w:World)(v:Value)(l:List Rp):Prop:=w.ownsRow B 65 25 v l.length (eP l)
theorem pN.below{B:Nat}{w w':World}{v:Value}{l:List Rp}(h:pN B w v l)(hb:Below w.heap.size w w'):pN B w' v l:=by
 obtain⟨h1,h2⟩:=h;refine⟨h1,?_⟩
 rcases h2 with h2 | ⟨g,cap,cur,e,hg,hh,ht⟩
 .exact .inl h2
 .exact .inr ⟨g,cap,cur,e,hg,(hb.block g (Gl hh)).trans hh,ht⟩
theorem pN.blk{B:Nat}{w:World}{v:Value}{l:List Rp}(h:pN B w v l):∀k,v.ownBlock=some k->B<=k:=by
 obtain⟨-,h2⟩:=h;intro k hk
 rcases h2 with⟨rfl,-⟩ | ⟨g,cap,cur,rfl,hg,-⟩
 .cases hk
 .simp[Value.ownBlock]at hk; omega
theorem pN.rps{B:Nat}{w:World}{v:Value}{l:List Rp}(h:pN B w v l)(h8:∀r∈l,r.cells.length=8):∃a c,v=.slice a l.length c/\Dc w a l:=by
 obtain⟨h1,h2⟩:=h
 rcases h2 with⟨rfl,hn⟩ | ⟨g,cap,cur,rfl,hg,hh,hc,hm,hs,ht⟩
 .obtain rfl:=List.length_eq_zero_iff.1 hn;exact⟨none,0,rfl,λi hi=>absurd hi (by simp)⟩
 .refine⟨some ⟨g,0,none⟩,cap,rfl,λi hi=>⟨h8 _ (List.getElem_mem hi),g,0,rfl,(Gl hh),λj u hj=>?_⟩⟩;have hz:=Rp.size (h8 _ (List.getElem_mem hi))
  have hj25:j<25:=by have:=(List.getElem?_eq_some_iff.1 hj).1;simp at this; omega
  have Iw:=py l h8 i hi j hj25;rw[<-ht,List.getElem?_take_of_lt (by omega)]at Iw
  have:w.cell? ⟨g,0+i*25+j,none⟩=cur[i*25+j]?:=by rw[cell_of_row w g (0+i*25+j) cur 65 (0,0) hh];congr 1; omega
  rw[this]
  have e2:cur.toList[i*25+j]?=cur[i*25+j]?:=by simp
  rw[<-e2,Iw,<-hj]; simp
theorem wB(l:List Rp)(r:Rp):eP (l ++ [r])=eP l ++ r.arr.toList:=by simp[eP]
theorem DT(w:World)(cs:Array Value)(T:TypeId):∀j u,cs.toList[j]?=some u->(w.alloc (.cells cs T)).cell? ((⟨w.heap.size,0,none⟩:Addr).add j)=some u:=by intro j u h;rw[Addr.add_mid,cell_of_row _ w.heap.size (0+j) cs T (0,0) (heap_alloc_new w _),Nat.zero_add];simpa using h
def Gp.frm(g:Gp)(epoch:Int):List Rp:=(g.mem epoch).map (λx=>g.r.getD x.toNat Rp.zero)
def Gp.syncs(g:Gp)(epoch:Int)(i:Nat):Bool:=g.u.getD i false && decide (2<=(g.mem epoch).length) && decide ((g.r.getD i Rp.zero).floor<epoch)
def Gp.sync(g:Gp)(epoch:Int)(i:Nat):Gp:=if g.syncs epoch i then g.setR i ⟨epoch,bV (g.frm epoch)⟩ else g
theorem Gp.frm8{g:Gp}(h:g.ok)(epoch:Int):∀r∈g.frm epoch,r.cells.length=8:=by intro r hr;obtain⟨x,hx,rfl⟩:=List.mem_map.1 hr;obtain⟨i,rfl,hi,-⟩:=Gp.mem_lt hx;exact Gp.getR h hi
theorem Gp.sync_ok{g:Gp}(h:g.ok)(epoch:Int)(i:Nat):(g.sync epoch i).ok:=by
 unfold Gp.sync; split
 .exact h.setR i (gq _)
 .exact h
theorem ze(g:Gp)(epoch:Int)(i:Nat)(w:World)(hg:g.ok)(Js:i<3) : Calls Tryz.prog 65 #[.agg g.arr,.int .i64 epoch,.int .i64 i] w λe w'=>e=.returned (.tuple #[.agg (g.sync epoch i).arr,.bool (g.syncs epoch i)])/\Below w.heap.size w w':=by
 have OK:=Hx hg;have Z:=Hx (Gp.size hg)
 have hti:(i:Int)<3:=by omega
 have Jx:i<g.r.length:=by rw[hg.r3]; exact Js
 have JX:i<g.u.length:=by rw[hg.u3]; exact Js
 clear hg;go_enter Tryz.func65,Tryz.ntmps65
 go_upto_region 1 with fail;obtain⟨w1,pX⟩:=Nn ((w.alloc (.cells g.arr 69)).alloc (.cells Gp.zero.arr 69));rw[<-aS]at pX;rw[<-pX];rw[aS]at pX;have F1:=Hs (GF w g w1) (pX▸⟨(ay w _).alloc (by simp) _,OK.out,heap_alloc2_old w _ _,heap_alloc2_new w _ _⟩);clear pX;go_wp2_with ((with_reducible refine bU rfl 69 _ rfl ?_); refine⟨w.heap.size,_,g.arr,_,rfl,F1.out.hG,aj.1,rfl,by rw[aj.2,Z.out],?_⟩);refine(gR g _ _ OK.out).mono ?_;rintro e w2 ⟨a2,c2,rfl,ec,b2⟩;have F2:=Hx (F1.out.over b2);have HI:=Hx ec.hi;obtain⟨m,hm⟩:=Nm ((g.mem epoch).length);rw[hm];have HM:=Hx hm;have hm3:m<=3:=hm▸g.mem_len epoch 3;clear hm b2 F1 ec;obtain⟨u0,-⟩:=ju F2.out.hG F2.out.ok JX;obtain⟨f0,-⟩:=ee F2.out.hG F2.out.ok Jx;obtain⟨U,hU⟩:=Nm (g.u[i]);obtain⟨F,hF⟩:=Nm (g.r[i].floor);rw[hU]at u0;rw[hF]at f0;have HS:=Hs (g.syncs epoch i=(U && decide (2<=m) && decide (F<epoch))) (by unfold Gp.syncs; rw[<-hU,<-hF,<-HM.out]; simp[JX,Jx]);clear hU hF Jx JX;cases U
 .have HN:=Hs (g.sync epoch i=g/\g.syncs epoch i=false) (by unfold Gp.sync; rw[HS.out]; exact⟨rfl,rfl⟩);clear f0;go_wp2_with (first|((with_reducible refine bU rfl 69 _ rfl ?_); refine⟨w.heap.size,_,g.arr,_,rfl,F2.out.hG,aj.1,rfl,by rw[aj.2,Z.out],?_⟩)|((with_reducible refine cu rfl 69 _ _ rfl ?_); refine⟨w.heap.size+1,_,g.arr,_,rfl,rfl,F2.out.hZ,by rw[aj.2,Z.out],by rw[Z.out]; rfl,Gp.one _,?_⟩));refine bodyPost_ret (v:=.tuple #[.agg g.arr,.bool false]) (aW Tryz.results65 _ _ (w.heap.size+1) 69 g.arr (0,0) _ _ rfl rfl (setRow_heap _ _ _ _ _ _ F2.out.hZ) aj.1 rfl (by rw[aj.2,Z.out])) rfl ?_;exact⟨by rw[HN.out.1,HN.out.2],F2.out.done _⟩
 .by_cases hm2:m<2
  .have HN:=Hs (g.sync epoch i=g/\g.syncs epoch i=false) (by unfold Gp.sync; rw[HS.out,show decide (2<=m)=false from by simp; omega]; exact⟨rfl,rfl⟩);clear f0;go_wp2_with (first|((with_reducible refine bU rfl 69 _ rfl ?_); refine⟨w.heap.size,_,g.arr,_,rfl,F2.out.hG,aj.1,rfl,by rw[aj.2,Z.out],?_⟩)|((with_reducible refine cu rfl 69 _ _ rfl ?_); refine⟨w.heap.size+1,_,g.arr,_,rfl,rfl,F2.out.hZ,by rw[aj.2,Z.out],by rw[Z.out]; rfl,Gp.one _,?_⟩));refine bodyPost_ret (v:=.tuple #[.agg g.arr,.bool false]) (aW Tryz.results65 _ _ (w.heap.size+1) 69 g.arr (0,0) _ _ rfl rfl (setRow_heap _ _ _ _ _ _ F2.out.hZ) aj.1 rfl (by rw[aj.2,Z.out])) rfl ?_;exact⟨by rw[HN.out.1,HN.out.2],F2.out.done _⟩
  .by_cases hfe:epoch<=F
   .have HN:=Hs (g.sync epoch i=g/\g.syncs epoch i=false) (by unfold Gp.sync; rw[HS.out,show decide (F<epoch)=false from by simp; omega]; simp);go_wp2_with (first|((with_reducible refine bU rfl 69 _ rfl ?_); refine⟨w.heap.size,_,g.arr,_,rfl,F2.out.hG,aj.1,rfl,by rw[aj.2,Z.out],?_⟩)|((with_reducible refine cu rfl 69 _ _ rfl ?_); refine⟨w.heap.size+1,_,g.arr,_,rfl,rfl,F2.out.hZ,by rw[aj.2,Z.out],by rw[Z.out]; rfl,Gp.one _,?_⟩));refine bodyPost_ret (v:=.tuple #[.agg g.arr,.bool false]) (aW Tryz.results65 _ _ (w.heap.size+1) 69 g.arr (0,0) _ _ rfl rfl (setRow_heap _ _ _ _ _ _ F2.out.hZ) aj.1 rfl (by rw[aj.2,Z.out])) rfl ?_;exact⟨by rw[HN.out.1,HN.out.2],F2.out.done _⟩
   .have HN:=Hs (g.sync epoch i=g.setR i ⟨epoch,bV (g.frm epoch)⟩/\g.syncs epoch i=true) (by
     have:g.syncs epoch i=true:=by rw[HS.out]; simp; omega
     exact⟨if_pos this,this⟩)
    have hd2:decide ((m:Int)<2)=false:=by simp; omega
    have hdf:decide (epoch<=F)=false:=by simp; omega
    obtain⟨L,hL⟩:=Nm (g.frm epoch);have L8:=Hs (∀r∈L,r.cells.length=8) (hL▸Gp.frm8 OK.out epoch);have LM:=Hs (L.length=m) (by rw[<-hL,<-HM.out]; simp[Gp.frm])
    have LAT:=Hs (∀j (h:j<(g.mem epoch).length),∃i':Nat,i'<3/\(g.mem epoch)[j]=(i':Int)/\L[j]?=some (g.r.getD i' Rp.zero)) (λj h=>by
     obtain⟨i',e,h3,-⟩:=Gp.mem_lt (List.getElem_mem h);refine⟨i',h3,e,?_⟩;rw[<-hL];unfold Gp.frm;rw[List.getElem?_map,List.getElem?_eq_getElem h,e]
     rfl)
    rw[hL]at HN;have HL:=Hx hL;clear hL;obtain⟨ie,z,hie,hz,hsz,hby,hzs⟩:=rM;have I1:=Hx hie;have I2:=Hx hz;have I3:=Hx hsz;have I4:=Hx hby;have I5:=Hx hzs;clear hie hz hsz hby hzs;go_wp2;clear f0 u0;go_loopw [9,11,37] (λv _ k wr=>∃j:Nat,j<=m/\k=.int .i64 j/\pN w2.heap.size wr v (L.take j)/\Below w2.heap.size w2 wr) (λ_ _ k _=>m - (intOf k).toNat)
    case atStart=>exact⟨0,by omega,rfl,⟨rfl,.inl ⟨rfl,rfl⟩⟩,Below.refl _ _⟩
    case round =>
     obtain⟨j,hj,rfl,hO,hB⟩:=hrel
     have hlen:(L.take j).length=j:=by rw[List.length_take,LM.out]; omega
     have GFR:=Hx (F2.out.over hB);have HB:=Hx hB;have HO:=Hx hO;obtain⟨av,cv,rfl,hrps⟩:=hO.rps (λr hr=>L8.out r (List.mem_of_mem_take hr));rw[hlen]at HO ⊢;have HRPS:=Hx hrps;have Jp:=Hx hlen;have BLK:=Hx (HO.out.blk);clear hO hB hrps hlen;by_cases I8:j<m
     .obtain⟨i',h3,hx,hLj⟩:=LAT.out j (by rw[HM.out]; exact I8);obtain⟨bb,oo,rfl,-,Np,wU⟩:=HI.out j (by rw[HM.out]; exact I8);rw[hx]at wU;have c0:=(HB.out.cell (p:=⟨bb,oo+j,none⟩) Np).trans wU
      have h3i:(i':Int)<3:=by omega
      have IE:i'<g.r.length:=by rw[OK.out.r3]; exact h3
      obtain⟨R,hR⟩:=Nm (g.r[i']);have RG:=Hs (wr.rangeAt w.heap.size (i'*25) R.arr.toList) (hR▸(eO GFR.out.hG GFR.out.ok IE).1);have R8:=Hs (R.cells.length=8) (hR▸OK.out.c8 _ (List.getElem_mem IE));have ZR:=Hx (Rp.size R8.out);have HT:=Hs (L.take (j+1)=L.take j ++ [R]) (by rw[List.take_add_one,hLj,<-hR]; simp[IE])
      have OW:=Hx (λo=>show(wr.alloc o).ownsRow w2.heap.size 65 25 (.slice av j cv) j (eP (L.take j)) from by
       have:=HO.out.below (ay wr o);unfold pN at this
       rwa [Jp.out]at this)
      clear hR IE hLj hx wU;go_wp2_with (first|((with_reducible refine lI rfl 65 _ rfl ?_); refine⟨w.heap.size,i'*25,R.arr,_,rfl,RG.out,bu.1,rfl,by rw[bu.2.1,ZR.out],?_⟩)|((with_reducible refine G3 rfl 186 _ _ rfl ?_); refine⟨65,[(0,.agg R.arr)],R.arr,ie,z,rfl,Tryz.underlying186,I1.out,I2.out,by rw[I3.out]; decide,by rw[I3.out]; decide,zm ie z I1.out I2.out R R8.out,?_⟩)|(at_builtin; refine wpList_append_own _ rfl _ _ 186 rfl w2.heap.size 65 ie z 25 264 Tryz.underlying186 I1.out I2.out I3.out I4.out I5.out (by decide) _ _ _ rfl (OW.out _) ⟨wr.heap.size,0,none⟩ 1 1 R.arr.toList rfl (by simp[ZR.out]) (DT wr R.arr _) (λu hu=>(Array.all_eq_true_iff_forall_mem.1 R.one) u (by simpa using hu)) (by unfold maxLen; omega) (by omega) (Nat.le_trans HB.out.size (ay wr _).size) ?_));intro v' w7 jZ Il _;have HN7:=Hs (pN w2.heap.size w7 v' (L.take (j+1))) (by rw[HT.out]; simpa[pN,Jp.out,wB] using jZ);have HZ7:=Hx ((HB.out.trans ((ay wr _).mono HB.out.size)).grown Il (Nat.le_trans HB.out.size (ay wr _).size) (λm hm=>by have:=BLK.out m hm; omega));clear jZ Il;go_wp2;go_roundw
      case rel=>exact⟨j+1,by omega,by go_num,HN7.out,HZ7.out⟩
      case measure=>simp[intOf]; omega
     .obtain rfl:j=m:=by omega
      have MG:=Hs (Dc wr av L) (by have:=HRPS.out; rwa [List.take_of_length_le (by rw[LM.out]; exact Nat.le_refl _)]at this)
      have ME:=Hx (λ(w':World) (hb:Below wr.heap.size wr w')=>merge_any L av cv w' (by rw[LM.out]; unfold maxLen; omega) (λk hk=>by
       obtain⟨e1,b,o,e2,e3,e4⟩:=MG.out k hk
       exact⟨e1,b,o,e2,Nat.lt_of_lt_of_le e3 hb.size,λq v hv=>(hb.cell (p:=⟨b,_,none⟩) e3).trans (e4 q v hv)⟩))
      rw[LM.out]at ME;go_wp2_with fail;refine(ME.out _ (Below.refl _ _)).mono ?_;rintro e w5 ⟨rfl,b5⟩;have F5:=Hx (GFR.out.over b5);obtain⟨M,hM⟩:=Nm (bV L);have M8:=Hs (M.length=8) (hM▸gq L);rw[hM]at HN ⊢;obtain⟨Y,hY⟩:=Nm (Rp.mk epoch M);have BR:=Hs (Tryz.prog.built 65 [(0,.int .i64 epoch),(1,.agg (flat M).toArray)]=some Y.arr) (hY▸CZ epoch M M8.out);have Y8:=Hs (Y.cells.length=8) (hY▸M8.out);rw[hY]at HN;have ZY:=Hx (Rp.size Y8.out);have TH:=Hs (w5.there w.heap.size (i*25) Y.arr.size) (by rw[ZY.out]; exact(eO F5.out.hG F5.out.ok (by rw[F5.out.ok.r3]; exact Js)).2);have F6:=Hx (F5.out.setR Js Y8.out);obtain⟨G,hG⟩:=Nm (g.setR i Y);rw[hG]at F6 HN;have ZG:=Hx (Gp.size F6.out.ok);clear hM hY hG b5;go_wp2_with (first|((with_reducible refine wT rfl 65 _ rfl ?_); refine⟨[(0,.int .i64 epoch),(1,.agg (flat M).toArray)],Y.arr,rfl,BR.out,?_⟩)|((with_reducible refine eZ rfl 65 _ _ rfl ?_); refine⟨w.heap.size,i*25,Y.arr,rfl,rfl,TH.out,by rw[bu.2.1,ZY.out],Rp.one _,?_⟩)|((with_reducible refine bU rfl 69 _ rfl ?_); refine⟨w.heap.size,_,G.arr,_,rfl,F6.out.hG,aj.1,rfl,by rw[aj.2,ZG.out],?_⟩)|((with_reducible refine cu rfl 69 _ _ rfl ?_); refine⟨w.heap.size+1,_,G.arr,_,rfl,rfl,F6.out.hZ,by rw[aj.2,ZG.out],by rw[ZG.out]; rfl,Gp.one _,?_⟩));refine bodyPost_ret (v:=.tuple #[.agg G.arr,.bool true]) (aW Tryz.results65 _ _ (w.heap.size+1) 69 G.arr (0,0) _ _ rfl rfl (setRow_heap _ _ _ _ _ _ F6.out.hZ) aj.1 rfl (by rw[aj.2,ZG.out])) rfl ?_;exact⟨by rw[HN.out.1,HN.out.2],F6.out.done _⟩
