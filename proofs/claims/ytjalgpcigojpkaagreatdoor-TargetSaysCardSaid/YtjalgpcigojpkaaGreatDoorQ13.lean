import Derived.Test.YtjalgpcigojpkaaGreatDoorQ12
set_option maxRecDepth 99999
set_option maxHeartbeats 99999999
namespace Go.Proofs.YtjalgpcigojpkaaGreatDoor
section
open Go.RowKit Go.Sort
theorem ii{P:Program}{fn:Func}{p q r:Tmp}{ty ty':TypeId}(h:fn.results=#[.cell p ty,.cell q ty',.tmp r])(tmps:Array Value)(w:World)(g g':Nat)(t t':TypeId)(cs cs':Array Value)(d d':TypeDesc)(v:Value)
  (hp:tmps.getD p undef=.pointer (some ⟨g,0,none⟩)) (hq:tmps.getD q undef=.pointer (some ⟨g',0,none⟩)) (hv:tmps.getD r undef=v) (hg:w.heap[g]?=some (.cells cs t (0,0))) (Nj:w.heap[g']?=some (.cells cs' t' (0,0)))
  (hu:P.underlying ty=some d) (hd:(match d with | .struct _ | .array _ _=>true | _=>false)=true) (hi:(P.info? ty).map (·.size)=some cs.size)
  (hu':P.underlying ty'=some d') (hd':(match d' with | .struct _ | .array _ _=>true | _=>false)=true) (L6:(P.info? ty').map (·.size)=some cs'.size) :
  (results fn tmps).run P w=.ok (.tuple #[.agg cs,.agg cs',v]) w:=by
 have JJ:tmps[p]?.getD undef=.pointer (some ⟨g,0,none⟩):=by simpa using hp
 have MQ:tmps[q]?.getD undef=.pointer (some ⟨g',0,none⟩):=by simpa using hq
 have hv':tmps[r]?.getD undef=v:=by simpa using hv
 simp[results,h,JJ,MQ,hv',asAddr,run_loadVar_row w g t ty cs (0,0) d hg hu hd hi,run_loadVar_row w g' t' ty' cs' (0,0) d' Nj hu' hd' L6]
abbrev aw.cells(c:aw):Array Value:=#[.int .i64 c.e,.int .i64 c.n,.string c.d]
theorem lY:aw.zero.cells=#[.int .i64 0,.int .i64 0,.string ⟨#[]⟩]:=rfl
theorem eQ(c:aw):c.cells.all (·.oneCell')=true:=by simp[aw.cells,Value.oneCell']
theorem jx:Tryz.prog.built 62 []=some aw.zero.cells:=by kernel_rfl
def Gp.put1(g:Gp)(k:Nat)(c:aw)(x:Int):Gp:=g.setR x.toNat ⟨(g.r.getD x.toNat Rp.zero).floor,(g.r.getD x.toNat Rp.zero).cells.set k c⟩
def Gp.putAll(g:Gp)(k:Nat)(c:aw)(l:List Int):Gp:=l.foldl (λh x=>h.put1 k c x) g
theorem Gp.putAll_snoc(g:Gp)(k:Nat)(c:aw)(l:List Int)(x:Int):g.putAll k c (l ++ [x])=(g.putAll k c l).put1 k c x:=by simp[Gp.putAll]
def Gp.readC(g:Gp)(epoch:Int)(k:Nat):aw:=if 2<=(g.mem epoch).length then bK k (g.frm epoch) else aw.zero
def Gp.read(g:Gp)(epoch:Int)(k:Nat):Gp:=if 2<=(g.mem epoch).length then g.putAll k (g.readC epoch k) (g.mem epoch) else g
theorem Gp.put1_ok{g:Gp}(h:g.ok)(k:Nat)(c:aw){i:Nat}(hi:i<3):(g.put1 k c i).ok:=h.setR _ (by simpa using Gp.getR h hi)
theorem Gp.putAll_ok{g:Gp}(h:g.ok)(k:Nat)(c:aw):∀l:List Int,(∀x∈l,∃i:Nat,x=i/\i<3)->(g.putAll k c l).ok:=by
 intro l
 induction l generalizing g with
 | nil=>intro _; exact h
 | cons x l ih =>
  intro hl;obtain⟨i,rfl,hi⟩:=hl x (by simp);exact ih (Gp.put1_ok h k c hi) (λy hy=>hl y (by simp[hy]))
theorem Gp.read_ok{g:Gp}(h:g.ok)(epoch:Int)(k:Nat):(g.read epoch k).ok:=by
 unfold Gp.read; split
 .exact Gp.putAll_ok h _ _ _ (λx hx=>by obtain⟨i,h1,h2,-⟩:=Gp.mem_lt hx; exact⟨i,h1,h2⟩)
 .exact h
structure RF (w:World) (h:Gp) (wx:World):Prop where
 below:Below w.heap.size w wx
 ok:h.ok
 hG:wx.heap[w.heap.size]?=some (.cells h.arr 69 (0,0))
 hZ:wx.heap[w.heap.size+1]?=some (.cells Gp.zero.arr 69 (0,0))
 hC:wx.heap[w.heap.size+1+1]?=some (.cells aw.zero.cells 62 (0,0))
theorem RF.lt{w wx:World}{h:Gp}(f:RF w h wx):w.heap.size+1+1<wx.heap.size:=(Gl f.hC)
theorem RF.over{w wx w':World}{h:Gp}(f:RF w h wx)(b:Below wx.heap.size wx w'):RF w h w' :=
 ⟨f.below.trans (b.mono f.below.size),f.ok,(b.block _ (by have:=f.lt; omega)).trans f.hG,(b.block _ (by have:=f.lt; omega)).trans f.hZ,(b.block _ f.lt).trans f.hC⟩
theorem RF.keeps{w wx w':World}{h:Gp}{B:Nat}(f:RF w h wx)(k:ac (·=B) wx w')(hB:w.heap.size+1+1<B):RF w h w':=by have:=f.lt;exact⟨f.below.trans (k.below f.below.size (λm hm=>by omega)),f.ok,(k.block _ (by omega) (by omega)).trans f.hG,(k.block _ (by omega) (by omega)).trans f.hZ,(k.block _ (by omega) f.lt).trans f.hC⟩
theorem RF.done{w wx:World}{h:Gp}(f:RF w h wx)(cs cs':Array Value):Below w.heap.size w ((wx.setRow (w.heap.size+1) cs).setRow (w.heap.size+1+1) cs') :=
 f.below.trans ((((ac.refl (λm=>m=w.heap.size+1\/m=w.heap.size+1+1) wx).setRow (.inl rfl) _).setRow (.inr rfl) _).below f.below.size (λm hm=>by omega))
structure RB (w:World) (h:Gp) (B:Nat) (c:aw) (wx:World):Prop where
 rf:RF w h wx
 hB:wx.heap[B]?=some (.cells c.cells 62 (0,0))
 lo:w.heap.size+1+1<B
theorem RB.lt{w wx:World}{h:Gp}{B:Nat}{c:aw}(f:RB w h B c wx):B<wx.heap.size:=(Gl f.hB)
theorem RB.over{w wx w':World}{h:Gp}{B:Nat}{c:aw}(f:RB w h B c wx)(b:Below wx.heap.size wx w'):RB w h B c w' :=
 ⟨f.rf.over b,(b.block _ f.lt).trans f.hB,f.lo⟩
theorem RB.put{w wx:World}{h:Gp}{B:Nat}{c:aw}(f:RB w h B c wx)(d:aw):RB w h B d (wx.setRow B d.cells) :=
 ⟨f.rf.keeps ((ac.refl (·=B) wx).setRow rfl _) f.lo,setRow_heap _ _ _ _ _ _ f.hB,f.lo⟩
theorem zg{w:World}{N i k:Nat}{g:Gp}{T:TypeId}(h:w.heap[N]?=some (.cells g.arr T (0,0)))(hg:g.ok)(hi:i<g.r.length)(hk:k<g.r[i].cells.length):w.rangeAt N (i*25+1+k*3) g.r[i].cells[k].cells.toList:=by
 obtain⟨⟨h0,h1,h2⟩,-⟩:=ef h hg hi hk;intro j v hv
 match j,hv with
 | 0,hv=>simp at hv; subst hv; exact h0
 | 1,hv=>simp at hv; subst hv; exact h1
 | 2,hv=>simp at hv; subst hv; exact h2
 | j+3,hv=>simp at hv
theorem RB.setC{w wx:World}{h:Gp}{B i k:Nat}{c:aw}(f:RB w h B c wx)(hi:i<3)(hk:k<8) : RB w (h.put1 k c (i:Int)) B c (((wx.setCell ⟨w.heap.size,i*25+1+k*3,none⟩ (.int .i64 c.e)).setCell ⟨w.heap.size,i*25+1+k*3+1,none⟩ (.int .i64 c.n)).setCell ⟨w.heap.size,i*25+1+k*3+2,none⟩ (.string c.d)) /\ ac (·=w.heap.size) wx (((wx.setCell ⟨w.heap.size,i*25+1+k*3,none⟩ (.int .i64 c.e)).setCell ⟨w.heap.size,i*25+1+k*3+1,none⟩ (.int .i64 c.n)).setCell ⟨w.heap.size,i*25+1+k*3+2,none⟩ (.string c.d)):=by
 have kp:ac (·=w.heap.size) wx (((wx.setCell ⟨w.heap.size,i*25+1+k*3,none⟩ (.int .i64 c.e)).setCell ⟨w.heap.size,i*25+1+k*3+1,none⟩ (.int .i64 c.n)).setCell ⟨w.heap.size,i*25+1+k*3+2,none⟩ (.string c.d)) :=
  ac.setCell (S:=(·=w.heap.size)) (ac.setCell (S:=(·=w.heap.size)) (ac.setCell (S:=(·=w.heap.size)) (ac.refl _ _) rfl _) rfl _) rfl _
 have Ju:i<h.r.length:=by rw[f.rf.ok.r3]; exact hi
 have IE:k<h.r[i].cells.length:=by rw[f.rf.ok.c8 _ (List.getElem_mem Ju)]; exact hk
 have lB:=f.rf.lt;have NQ:=f.lo
 have e:h.put1 k c (i:Int)=h.setR i ⟨h.r[i].floor,h.r[i].cells.set k c⟩:=by simp[Gp.put1,Ju]
 refine⟨⟨⟨f.rf.below.trans (kp.below f.rf.below.size (λm hm=>by omega)),Gp.put1_ok f.rf.ok k c hi,?_,(kp.block _ (by omega) (by omega)).trans f.rf.hZ,(kp.block _ (by omega) lB).trans f.rf.hC⟩,(kp.block _ (by omega) f.lt).trans f.hB,f.lo⟩,kp⟩;rw[e];exact uF f.rf.hG f.rf.ok Ju IE c
theorem zf(g:Gp)(epoch:Int)(k:Nat)(w:World)(hg:g.ok)(LZ:k<8) : Calls Tryz.prog 94 #[.agg g.arr,.int .i64 epoch,.int .i64 k] w λe w'=>e=.returned (.tuple #[.agg (g.read epoch k).arr,.agg (g.readC epoch k).cells,.bool (decide (2<=(g.mem epoch).length))])/\Below w.heap.size w w':=by
 have OK:=Hx hg;have Z:=Hx (Gp.size hg);clear hg;go_enter Tryz.func94,Tryz.ntmps94
 go_upto_region 1 with fail;obtain⟨w1,pX⟩:=Nn (((w.alloc (.cells g.arr 69)).alloc (.cells Gp.zero.arr 69)).alloc (.cells aw.zero.cells 62));have Jf:=pX;rw[<-aS]at pX;rw[lY]at pX;rw[<-pX];clear pX;have F1:=Hs (RF w g w1) (Jf▸⟨C6 w _ _ _,OK.out,(aO w _ _ _).1,(aO w _ _ _).2.1,(aO w _ _ _).2.2⟩);clear Jf;have hw1N:w.heap.size+1+1<w1.heap.size:=F1.out.lt;go_wp2_with ((with_reducible refine bU rfl 69 _ rfl ?_); refine⟨w.heap.size,_,g.arr,_,rfl,F1.out.hG,aj.1,rfl,by rw[aj.2,Z.out],?_⟩);refine(gR g _ _ OK.out).mono ?_;rintro e w2 ⟨a2,c2,rfl,ec,b2⟩;have F2:=Hx (F1.out.over b2);have HI:=Hx ec.hi;obtain⟨m,hm⟩:=Nm ((g.mem epoch).length);rw[hm];have HM:=Hx hm;have hm3:m<=3:=hm▸g.mem_len epoch 3;clear hm b2 F1 ec;by_cases hm2:m<2
 .have HN:=Hs (g.read epoch k=g/\g.readC epoch k=aw.zero/\decide (2<=(g.mem epoch).length)=false) (by
   have:¬ 2<=(g.mem epoch).length:=by rw[HM.out]; omega
   exact⟨if_neg this,if_neg this,decide_eq_false this⟩)
  obtain⟨C0,MC⟩:=Nm aw.zero;have BC:=Hs (Tryz.prog.built 62 []=some C0.cells) (MC▸jx);have HZC:=Hs (w2.heap[w.heap.size+1+1]?=some (.cells C0.cells 62 (0,0))) (MC▸F2.out.hC);rw[MC]at HN;clear MC;go_wp2_with (first|((with_reducible refine wT rfl 62 _ rfl ?_); refine⟨[],C0.cells,rfl,BC.out,?_⟩)|((with_reducible refine bU rfl 69 _ rfl ?_); refine⟨w.heap.size,_,g.arr,_,rfl,F2.out.hG,aj.1,rfl,by rw[aj.2,Z.out],?_⟩)|((with_reducible refine cu rfl 69 _ _ rfl ?_); refine⟨w.heap.size+1,_,g.arr,_,rfl,rfl,F2.out.hZ,by rw[aj.2,Z.out],by rw[Z.out]; rfl,Gp.one _,?_⟩)|((with_reducible refine cu rfl 62 _ _ rfl ?_); refine⟨w.heap.size+1+1,_,C0.cells,_,rfl,rfl,(setRow_other _ _ _ _ (by omega)).trans HZC.out,au.2,rfl,eQ _,?_⟩));refine bodyPost_ret (v:=.tuple #[.agg g.arr,.agg C0.cells,.bool false]) (ii Tryz.results94 _ _ (w.heap.size+1) (w.heap.size+1+1) 69 62 g.arr C0.cells _ _ _ rfl rfl rfl ((setRow_other _ _ _ _ (by omega)).trans (setRow_heap _ _ _ _ _ _ F2.out.hZ)) (setRow_heap _ _ _ _ _ _ ((setRow_other _ _ _ _ (by omega)).trans HZC.out)) aj.1 rfl (by rw[aj.2,Z.out]) au.1 rfl au.2) rfl ?_;exact⟨by rw[HN.out.1,HN.out.2.1,HN.out.2.2],F2.out.done _ _⟩
 .have hm2':2<=(g.mem epoch).length:=by rw[HM.out]; omega
  have HD:=Hs (decide (2<=(g.mem epoch).length)=true) (decide_eq_true hm2');obtain⟨L,hL⟩:=Nm (g.frm epoch);have HC:=Hs (g.readC epoch k=bK k L) (hL▸if_pos hm2');have HN:=Hs (g.read epoch k=g.putAll k (bK k L) (g.mem epoch)) (by rw[<-HC.out]; exact if_pos hm2');have LM:=Hs (L.length=m) (by rw[<-hL,<-HM.out]; simp[Gp.frm])
  have LAT:=Hs (∀j (h:j<(g.mem epoch).length),∃i':Nat,i'<3/\(g.mem epoch)[j]=(i':Int)/\L[j]?=some (g.r.getD i' Rp.zero)) (λj h=>by
   obtain⟨i',e,h3,-⟩:=Gp.mem_lt (List.getElem_mem h);refine⟨i',h3,e,?_⟩;rw[<-hL];unfold Gp.frm;rw[List.getElem?_map,List.getElem?_eq_getElem h,e]
   rfl)
  have hd2:decide ((m:Int)<2)=false:=by simp; omega
  have hk8':(k:Int)<8:=by omega
  clear hm2' hL;go_upto_region 5 with fail;obtain⟨w3,Ip⟩:=Nn (w2.alloc (.cells aw.zero.cells 62));have hw3':=Ip;rw[lY]at Ip;rw[<-Ip];clear Ip;have R3:=Hs (RB w g w2.heap.size aw.zero w3) (hw3'▸⟨F2.out.over (ay w2 _),heap_alloc_new _ _,F2.out.lt⟩);have K3:=Hs (Below w2.heap.size w2 w3) (hw3'▸ay w2 _);clear hw3';obtain⟨B,hB⟩:=Nm w2.heap.size;rw[hB]at R3 K3;rw[hB];have Oq:=Hx hB;clear hB F2;have hB2:w.heap.size+1+1<B:=R3.out.lo;go_wp2;go_loopw [12,25] (λ_ i wr=>∃j:Nat,j<=m/\i=.int .i64 j/\RB w g B (bK k (L.take j)) wr/\Below B w2 wr) (λ_ i _=>m - (intOf i).toNat)
  case atStart=>exact⟨0,by omega,rfl,R3.out,K3.out⟩
  case round =>
   obtain⟨j,hj,rfl,rb,hb⟩:=hrel;obtain⟨b,Np⟩:=Nm (bK k (L.take j));rw[Np]at rb;have RBH:=Hx rb;have HB:=Hx hb;have BB:=Hx Np;clear rb hb Np R3 K3;by_cases I8:j<m
   .obtain⟨i',h3,hx,hLj⟩:=LAT.out j (by rw[HM.out]; exact I8);obtain⟨bb,oo,rfl,-,Ko,wU⟩:=HI.out j (by rw[HM.out]; exact I8);rw[hx]at wU;rw[Oq.out]at Ko;have c0:=(HB.out.cell (p:=⟨bb,oo+j,none⟩) Ko).trans wU
    have h3i:(i':Int)<3:=by omega
    have IE:i'<g.r.length:=by rw[OK.out.r3]; exact h3
    have Lj:k<g.r[i'].cells.length:=by rw[OK.out.c8 _ (List.getElem_mem IE)]; exact LZ
    obtain⟨⟨g0,g1,g2⟩,-⟩:=ef RBH.out.rf.hG OK.out IE Lj;obtain⟨d,hd⟩:=Nm (g.r[i'].cells[k]);rw[hd]at g0 g1 g2;obtain⟨b0,b1,b2⟩:=gv RBH.out.hB;obtain⟨X,hX⟩:=Nm (aC d b)
    have J8:j<L.length:=by rw[LM.out]; exact I8
    have HT:=Hs (bK k (L.take (j+1))=if X then d else b) (by
     have e:L[j].get k=d:=by
      have e2:L[j]=g.r[i']:=by have:=hLj;rw[List.getElem?_eq_getElem J8]at this;simpa[IE] using this
      rw[e2,Rp.get_at Lj,hd]
     rw[pK J8,e,BB.out,hX])
    have NW:=Hx (λ(w:World)=>xr hX w)
    have hN0:w.heap.size<wr.heap.size:=by have:=RBH.out.rf.lt; omega
    have hNB:B<wr.heap.size:=RBH.out.lt;have hq:=cH (Below.refl wr.heap.size wr);have RCF:=Hs (∀w':World,w'.heap[w.heap.size]?=some (.cells g.arr 69 (0,0))->w'.rangeAt w.heap.size (i'*25+1+k*3) d.cells.toList) (λw' h=>hd▸zg h OK.out IE Lj);clear hd hX IE Lj hLj J8 hx wU;go_upto_region 8 with fail;go_cut [37] (λv wx=>v=.bool X/\Below wr.heap.size wr wx)
    case first =>
     refine wp_region_quiet_below (by kernel_rfl) (by kernel_rfl) ?_
     repeat(go_big_quiet_step (exact Calls.regrown_of (NW.out _)))
     refine wpQuiet_nil ?_;rintro w' ⟨⟨dq,osq⟩,rfl⟩;go_wp2_with fail;go_meet;exact⟨rfl,below_regrown _ dq osq⟩
    case rest =>
     obtain⟨wo,rfl⟩:∃wo:World,wo=wr:=⟨_,rfl⟩
     obtain⟨rfl,b4⟩:=hcut;have RB4:=Hx (RBH.out.over b4);have NA:=Hx (HB.out.trans (b4.mono (by omega)));clear b4 hq;cases X
     .go_wp2;go_roundw
      case rel=>exact⟨j+1,by omega,by go_num,by rw[HT.out]; exact RB4.out,NA.out⟩
      case measure=>simp[intOf]; omega
     .have RB5:=Hx (RB4.out.put d);have KB5:=Hx (NA.out.trans (((ac.refl (·=B) wc).setRow (g:=B) rfl d.cells).below (Nat.le_of_lt RB4.out.lt) (λm hm=>by omega)));go_wp2_with (first|((with_reducible refine lI rfl 62 _ rfl ?_); refine⟨w.heap.size,i'*25+1+k*3,d.cells,_,rfl,RCF.out _ RB4.out.rf.hG,au.1,rfl,au.2,?_⟩)|((with_reducible refine cu rfl 62 _ _ rfl ?_); refine⟨B,_,d.cells,_,rfl,rfl,RB4.out.hB,au.2,rfl,eQ _,?_⟩));go_roundw
      case rel=>exact⟨j+1,by omega,by go_num,by rw[HT.out]; exact RB5.out,KB5.out⟩
      case measure=>simp[intOf]; omega
   .obtain rfl:j=m:=by omega
    rw[List.take_of_length_le (by rw[LM.out]; exact Nat.le_refl _)]at BB;have HCb:=Hx (HC.out.trans BB.out);have HNb:=Hs (g.read epoch k=g.putAll k b (g.mem epoch)) (by rw[HN.out,BB.out]);clear HC HN BB;go_wp2
    obtain⟨wq,rfl⟩:∃wq:World,wq=wr:=⟨_,rfl⟩
    go_loopw [14,48] (λ_ i wy=>∃p:Nat,p<=j/\i=.int .i64 p/\RB w (g.putAll k b ((g.mem epoch).take p)) B b wy/\ac (·=w.heap.size) wq wy) (λ_ i _=>j - (intOf i).toNat)
    case atStart=>exact⟨0,by omega,rfl,RBH.out,ac.refl _ _⟩
    case round =>
     obtain⟨p,hp,rfl,rb,kp⟩:=hrel;obtain⟨h,hh⟩:=Nm (g.putAll k b ((g.mem epoch).take p));rw[hh]at rb;have RH:=Hx rb;have KP:=Hx kp;have HH:=Hx hh;clear rb kp hh;by_cases hpj:p<j
     .obtain⟨i',h3,hx,-⟩:=LAT.out p (by rw[HM.out]; exact hpj);obtain⟨bb,oo,rfl,NQ,Ko,wU⟩:=HI.out p (by rw[HM.out]; exact hpj)
      have I0:=Hs (g.putAll k b ((g.mem epoch).take (p+1))=h.put1 k b (i':Int)) (by rw[List.take_succ_eq_append_getElem (by rw[HM.out]; exact hpj),Gp.putAll_snoc,HH.out,hx])
      rw[hx]at wU;rw[Oq.out]at Ko
      have c0:=((KP.out.cell (b:=bb) (o:=oo+p) (by omega) (by have:=RBH.out.lt; omega)).trans ((HB.out.cell (p:=⟨bb,oo+p,none⟩) Ko).trans wU))
      have h3i:(i':Int)<3:=by omega
      clear hx wU;go_upto_region 14 with fail;refine lq 7 (by kernel_rfl) (by kernel_rfl) ?_;intro wd IB hwh;have RD:=Hx (RH.out.over IB);have KD:=Hx (KP.out.trans (ac.of_below IB));obtain⟨b0,b1,b2⟩:=gv RD.out.hB
      have Ju:i'<h.r.length:=by rw[RD.out.rf.ok.r3]; exact h3
      obtain⟨-,f0,f1,f2⟩:=ef (k:=k) RD.out.rf.hG RD.out.rf.ok Ju (by rw[RD.out.rf.ok.c8 _ (List.getElem_mem Ju)]; exact LZ);obtain⟨⟨g0,g1,g2⟩,-⟩:=ef (k:=k) RD.out.rf.hG RD.out.rf.ok Ju (by rw[RD.out.rf.ok.c8 _ (List.getElem_mem Ju)]; exact LZ);have RS:=Hx (RD.out.setC (i:=i') h3 LZ);clear IB hwh c0;simp only[List.take_succ_cons,List.take_zero,List.drop_succ_cons,List.drop_zero]
      repeat still_step
      refine wpStill_nil ?_;go_wp2;go_roundw
      case rel=>exact⟨p+1,by omega,by go_num,by rw[I0.out]; exact RS.out.1,KD.out.trans RS.out.2⟩
      case measure=>simp[intOf]; omega
     .obtain rfl:p=j:=by omega
      rw[List.take_of_length_le (by rw[HM.out]; exact Nat.le_refl _)]at HH;have HR:=Hx (HNb.out.trans HH.out);have ZH:=Hx (Gp.size RH.out.rf.ok);clear HNb HH;go_wp2_with fail;have RD:=Hx (RH.out.over (Below.refl _ _).drew);clear RH KP
      obtain⟨T,hT⟩:∃T:World->Prop,T=λw'=>w'.heap[w.heap.size]?=some (.cells h.arr 69 (0,0))/\w'.heap[B]?=some (.cells b.cells 62 (0,0)):=⟨_,rfl⟩
      have T1:∀w',T w'->w'.heap[w.heap.size]?=some (.cells h.arr 69 (0,0)):=λw' h=>by rw[hT]at h; exact h.1
      have T2:∀w',T w'->w'.heap[B]?=some (.cells b.cells 62 (0,0)):=λw' h=>by rw[hT]at h; exact h.2
      have T3:∀w',w'.heap[w.heap.size]?=some (.cells h.arr 69 (0,0))->w'.heap[B]?=some (.cells b.cells 62 (0,0))->T w':=λw' h1 h2=>by rw[hT]; exact⟨h1,h2⟩
      clear hT;refine wp_region_held_drew (S:=T) (by kernel_rfl) (T3 _ RD.out.rf.hG RD.out.hB) (λdT=>?_);refine wt 0 (.agg h.arr) dT ?_ (hy:=cP (by rfl) 69 _ rfl w.heap.size rfl 69 h.arr (0,0) _ T1 aj.1 rfl (by rw[aj.2,ZH.out]));go_simp;refine wt 1 (.agg b.cells) dT ?_ (hy:=cP (by rfl) 62 _ rfl B rfl 62 b.cells (0,0) _ T2 au.1 rfl au.2);go_simp;refine wpAnyH_ready (rs:=[2]) (by kernel_rfl) (by simp) ?_;refine AllReadyH.cons (o:=_) rfl (λK hK=>?_) AllReadyH.nil;refine aJ rfl 69 _ _ rfl (w.heap.size+1) h.arr rfl rfl 69 Gp.zero.arr RD.out.rf.hZ (by rw[aj.2,ZH.out]) (by rw[ZH.out]; rfl) (Gp.one _) ?_;refine hK.out _ _ (T3 _ ((setRow_other _ _ _ _ (by omega)).trans RD.out.rf.hG) ((setRow_other _ _ _ _ (by omega)).trans RD.out.hB)) (λIa=>?_);clear hK K;go_simp;refine wpAnyH_ready (rs:=[3]) (by kernel_rfl) (by simp) ?_;refine AllReadyH.cons (o:=_) rfl (λK hK=>?_) AllReadyH.nil;refine aJ rfl 62 _ _ rfl (w.heap.size+1+1) b.cells rfl rfl 62 aw.zero.cells ((setRow_other _ _ _ _ (by omega)).trans RD.out.rf.hC) au.2 rfl (eQ _) ?_;refine hK.out _ _ (T3 _ ((setRow_other _ _ _ _ (by omega)).trans ((setRow_other _ _ _ _ (by omega)).trans RD.out.rf.hG)) ((setRow_other _ _ _ _ (by omega)).trans ((setRow_other _ _ _ _ (by omega)).trans RD.out.hB))) (λID=>?_);clear hK K;go_simp;refine wpAnyH_ready (rs:=[4]) (by kernel_rfl) (by simp) ?_;refine AllReadyH.cons (o:=_) rfl (λK hK=>?_) AllReadyH.nil;go_simp;refine hK.out _ _ ID (λJi=>?_);clear hK K;refine wpAnyH_done (by kernel_rfl) ?_ _;go_wp2;refine bodyPost_ret (v:=.tuple #[.agg h.arr,.agg b.cells,.bool true]) (ii Tryz.results94 _ _ (w.heap.size+1) (w.heap.size+1+1) 69 62 h.arr b.cells _ _ _ rfl rfl rfl ((setRow_other _ _ _ _ (by omega)).trans (setRow_heap _ _ _ _ _ _ RD.out.rf.hZ)) (setRow_heap _ _ _ _ _ _ ((setRow_other _ _ _ _ (by omega)).trans RD.out.rf.hC)) aj.1 rfl (by rw[aj.2,ZH.out]) au.1 rfl au.2) rfl ?_;exact⟨by rw[HR.out,HCb.out,HD.out],RD.out.rf.done _ _⟩
end
section
open Go.ChangeShapes Go.WideShapes Go.ChangeAt Go.RowKit Go.Deep
section
variable {H:Type} {enc:TypeId × Value->H} {w:World} {base:Nat}
theorem Gu{α:Type}{l:List α}(h:l.length=9):∃a b c d e f g i j,l=[a,b,c,d,e,f,g,i,j]:=by
 match l,h with
 | [a,b,c,d,e,f,g,i,j],_=>exact⟨a,b,c,d,e,f,g,i,j,rfl⟩
theorem rE{fuel:Nat}{cs:List Value}{x:DataW H × List MemPlace}(h:DataW.trod enc Tryz.prog w base (λ_=>true) true fuel 39 cs=some x) :
  ∃c:bG,cs=[.int .i64 c.op,.int .i64 c.who,.int .i64 c.key,.int .i64 c.new,.int .i64 c.typ,.int .i64 c.at',.bool c.stays,.string c.data,.string c.want]/\(c.data.size<=maxLen/\c.want.size<=maxLen):=by
 obtain⟨xs,n,_,hx,hcl,hxl,hf⟩:=DataW.trod_struct Tryz.underlying39 h
 have hC:Tryz.prog.cellsOf 39=9:=by kernel_rfl
 have hC3:Tryz.prog.cellsOf 3=1:=by kernel_rfl
 have hC9:Tryz.prog.cellsOf 9=1:=by kernel_rfl
 have hC4:Tryz.prog.cellsOf 4=1:=by kernel_rfl
 rw[hC]at hcl;obtain⟨c0,c1,c2,c3,c4,c5,c6,c7,c8,rfl⟩:=Gu hcl;obtain⟨y0,y1,y2,y3,y4,y5,y6,y7,y8,rfl⟩:=Gu hxl;have f0:=hf 0 _ rfl;have f1:=hf 1 _ rfl;have f2:=hf 2 _ rfl;have f3:=hf 3 _ rfl;have f4:=hf 4 _ rfl;have f5:=hf 5 _ rfl;have f6:=hf 6 _ rfl;have f7:=hf 7 _ rfl;have f8:=hf 8 _ rfl;simp only[List.getElem_toArray,List.getElem_cons_zero,List.getElem_cons_succ,hC3,hC9,hC4,List.drop_zero,List.drop_succ_cons,List.take_succ_cons,List.take_zero,List.getElem?_cons_zero,List.getElem?_cons_succ]at f0 f1 f2 f3 f4 f5 f6 f7 f8;obtain⟨i0,e0,_,_⟩:=DataW.trod_int Tryz.underlying3 f0;obtain⟨i1,e1,_,_⟩:=DataW.trod_int Tryz.underlying3 f1;obtain⟨i2,e2,_,_⟩:=DataW.trod_int Tryz.underlying3 f2;obtain⟨i3,e3,_,_⟩:=DataW.trod_int Tryz.underlying3 f3;obtain⟨i4,e4,_,_⟩:=DataW.trod_int Tryz.underlying3 f4;obtain⟨i5,e5,_,_⟩:=DataW.trod_int Tryz.underlying3 f5;obtain⟨b6,e6,_⟩:=DataW.trod_bool Tryz.underlying4 f6;obtain⟨s7,e7,_,h7⟩:=DataW.trod_string Tryz.underlying9 f7;obtain⟨s8,e8,_,h8⟩:=DataW.trod_string Tryz.underlying9 f8;simp only[List.cons.injEq,and_true]at e0 e1 e2 e3 e4 e5 e6 e7 e8;subst e0 e1 e2 e3 e4 e5 e6 e7 e8;exact⟨⟨i0,i1,i2,i3,i4,i5,b6,s7,s8⟩,rfl,h7,h8⟩
end
structure Ac where
 kind:ByteArray
 a:Int
 b:Int
 s:ByteArray
 k:Int
 st:St
 ra:Option Addr
 rc:Nat
 cm:bG
def Ac.cells(x:Ac):List Value:=[.string x.kind,.int .i64 x.a,.int .i64 x.b,.string x.s,.int .u64 x.k,.int .i64 x.st.gen,.slice x.ra x.st.regs.length x.rc,.int .i64 x.st.typ,.int .i64 x.st.holder,.bool x.st.stays,
 .int .i64 x.cm.op,.int .i64 x.cm.who,.int .i64 x.cm.key,.int .i64 x.cm.new,.int .i64 x.cm.typ,.int .i64 x.cm.at',.bool x.cm.stays,.string x.cm.data,.string x.cm.want]
def GY (x:Int):Prop:=-9223372036854775808<=x/\x<=9223372036854775807
structure uW (w:World) (x:Ac):Prop where
 str:bj w x.st x.ra
 ki:x.kind.size<=maxLen
 si:x.s.size<=maxLen
 ai:GY x.a
 bi:GY x.b
 ku:0<=x.k/\x.k<=18446744073709551615
 ci:x.cm.data.size<=maxLen/\x.cm.want.size<=maxLen
def mI(w:World)(a:Option Addr)(l:List Ac):Prop :=
 ∀i (h:i<l.length),uW w l[i]/\∃b o,a=some ⟨b,o,none⟩/\b<w.heap.size/\w.rangeAt b (o+i*19) l[i].cells
section
variable {H:Type} {enc:TypeId × Value->H} {w:World} {base:Nat}
theorem di{α:Type}{l:List α}{n:Nat}(h:l.length=n+1):∃a t,l=a :: t/\t.length=n:=by
 cases l with
 | nil=>cases h
 | cons a t=>exact⟨a,t,rfl,by simpa using h⟩
theorem wf_i64{n:Int}(h:(Lit.int .i64 n).wf=true):GY n:=by simp only[Lit.wf,Bool.and_eq_true,decide_eq_true_eq]at h;exact h
theorem wf_u64{n:Int}(h:(Lit.int .u64 n).wf=true):0<=n/\n<=18446744073709551615:=by simp only[Lit.wf,Bool.and_eq_true,decide_eq_true_eq]at h;exact h
theorem Af{fuel:Nat}{cs:List Value}{x:DataW H × List MemPlace}(h:DataW.trod enc Tryz.prog w base (λ_=>true) true fuel 41 cs=some x) :
  ∃y:Ac,cs=y.cells/\uW w y:=by
 obtain⟨xs,n,_,hx,hcl,hxl,hf⟩:=DataW.trod_struct Tryz.underlying41 h
 have hC:Tryz.prog.cellsOf 41=19:=by kernel_rfl
 have hC3:Tryz.prog.cellsOf 3=1:=by kernel_rfl
 have hC9:Tryz.prog.cellsOf 9=1:=by kernel_rfl
 have hCu:Tryz.prog.cellsOf 37=1:=by kernel_rfl
 have hCs:Tryz.prog.cellsOf 34=5:=by kernel_rfl
 have hCc:Tryz.prog.cellsOf 39=9:=by kernel_rfl
 rw[hC]at hcl;obtain⟨c0,cs0,rfl,hcl0⟩:=di hcl;obtain⟨c1,cs1,rfl,hcl1⟩:=di hcl0;obtain⟨c2,cs2,rfl,hcl2⟩:=di hcl1;obtain⟨c3,cs3,rfl,hcl3⟩:=di hcl2;obtain⟨c4,cs4,rfl,hcl4⟩:=di hcl3;obtain⟨c5,cs5,rfl,hcl5⟩:=di hcl4;obtain⟨c6,cs6,rfl,hcl6⟩:=di hcl5;obtain⟨c7,cs7,rfl,hcl7⟩:=di hcl6;obtain⟨c8,cs8,rfl,hcl8⟩:=di hcl7;obtain⟨c9,cs9,rfl,hcl9⟩:=di hcl8;obtain⟨c10,cs10,rfl,hcl10⟩:=di hcl9;obtain⟨c11,cs11,rfl,hcl11⟩:=di hcl10;obtain⟨c12,cs12,rfl,hcl12⟩:=di hcl11;obtain⟨c13,cs13,rfl,hcl13⟩:=di hcl12;obtain⟨c14,cs14,rfl,hcl14⟩:=di hcl13;obtain⟨c15,cs15,rfl,hcl15⟩:=di hcl14;obtain⟨c16,cs16,rfl,hcl16⟩:=di hcl15;obtain⟨c17,cs17,rfl,hcl17⟩:=di hcl16;obtain⟨c18,cs18,rfl,hcl18⟩:=di hcl17;obtain rfl:=List.length_eq_zero_iff.1 hcl18;obtain⟨y0,xs0,rfl,hxl0⟩:=di hxl;obtain⟨y1,xs1,rfl,hxl1⟩:=di hxl0;obtain⟨y2,xs2,rfl,hxl2⟩:=di hxl1;obtain⟨y3,xs3,rfl,hxl3⟩:=di hxl2;obtain⟨y4,xs4,rfl,hxl4⟩:=di hxl3;obtain⟨y5,xs5,rfl,hxl5⟩:=di hxl4;obtain⟨y6,xs6,rfl,hxl6⟩:=di hxl5;obtain rfl:=List.length_eq_zero_iff.1 hxl6;have f0:=hf 0 _ rfl;have f1:=hf 1 _ rfl;have f2:=hf 2 _ rfl;have f3:=hf 3 _ rfl;have f4:=hf 4 _ rfl;have f5:=hf 5 _ rfl;have f6:=hf 6 _ rfl;simp only[List.getElem_toArray,List.getElem_cons_zero,List.getElem_cons_succ,hC3,hC9,hCu,hCs,hCc,List.drop_zero,List.drop_succ_cons,List.take_succ_cons,List.take_zero,List.getElem?_cons_zero,List.getElem?_cons_succ]at f0 f1 f2 f3 f4 f5 f6;obtain⟨s0,e0,_,h0⟩:=DataW.trod_string Tryz.underlying9 f0;obtain⟨i1,e1,_,h1⟩:=DataW.trod_int Tryz.underlying3 f1;obtain⟨i2,e2,_,h2⟩:=DataW.trod_int Tryz.underlying3 f2;obtain⟨s3,e3,_,h3⟩:=DataW.trod_string Tryz.underlying9 f3;obtain⟨i4,e4,_,h4⟩:=DataW.trod_int Tryz.underlying37 f4;obtain⟨st,ra,rc,e5,h5⟩:=vf f5;obtain⟨cm,e6,h6⟩:=rE f6;simp only[List.cons.injEq,and_true]at e0 e1 e2 e3 e4 e5 e6;obtain⟨rfl,rfl,rfl,rfl,rfl⟩:=e5;obtain⟨rfl,rfl,rfl,rfl,rfl,rfl,rfl,rfl,rfl⟩:=e6;subst e0 e1 e2 e3 e4;exact⟨⟨s0,i1,i2,s3,i4,st,ra,rc,cm⟩,rfl,h5,h0,h3,wf_i64 h1,wf_i64 h2,wf_u64 h4,h6⟩
theorem rr(w:World)(a:Addr):∀n,(∀i,i<n->∃y:Ac,uW w y/\∀j v,y.cells[j]?=some v->w.cell? ((a.add (i*19)).add j)=some v) ->
  ∃l:List Ac,l.length=n/\∀i (h:i<l.length),uW w l[i]/\∀j v,l[i].cells[j]?=some v->w.cell? ((a.add (i*19)).add j)=some v
 | 0,_=>⟨[],rfl,λi h=>absurd h (by simp)⟩
 | k+1,key=>by
  obtain⟨l,hl,Lh⟩:=rr w a k (λi hi=>key i (by omega));obtain⟨r,hr⟩:=key k (by omega);refine⟨l ++ [r],by simp[hl],λi h=>?_⟩;by_cases hik:i<l.length
  .rw[List.getElem_append_left hik]; exact Lh i hik
  .have:i=k:=by simp at h; omega
   subst this;rw[List.getElem_append_right (by omega)];simp only[hl,Nat.sub_self,List.getElem_cons_zero];exact hr
theorem yH{r:Reach}{b0:Nat}{v:Value}{d:DataW H}{p:List MemPlace}(hv:Value.okWide Tryz.prog w r b0 22 v)(h:DataW.Trod enc Tryz.prog w base (λ_=>true) true 22 v d p) :
  ∃(l:List Ac) (a:Option Addr) (cap:Nat),v=.slice a l.length cap/\(l.length<=maxLen/\mI w a l):=by
 obtain⟨a0,len,cap,rfl⟩:=okWide_slice Tryz.underlying22 hv;obtain⟨fuel,hf⟩:=h
 rcases open_slice Tryz.underlying22 hf with⟨Iu,_⟩ | ⟨a',len',cap',m,n',D,Pl,Iu,Ix,hl,hm,NM,hx1,hi⟩
 .have:Value.slice a0 len cap=.slice none 0 0:=by simpa[Value.cells] using Iu
  cases this
  exact⟨[],none,0,rfl,by simp,λi hi=>absurd hi (by simp)⟩
 .have:Value.slice a0 len cap=.slice (some a') len' cap':=by simpa[Value.cells] using Iu
  cases this
  have hC26:Tryz.prog.cellsOf 41=19:=by kernel_rfl
  have hml:len<=m:=by rw[NM]; split<;>omega
  have key:∀i,i<len->∃y:Ac,uW w y/\∀j v,y.cells[j]?=some v->w.cell? ((a'.add (i*19)).add j)=some v:=by intro i L6;obtain⟨cs',hc,ht'⟩:=hi i (by omega);rw[hC26]at hc;obtain⟨q,hcs',hq⟩:=Af ht';obtain⟨_,hlen,Iw⟩:=World.cells?_some hc;refine⟨q,hq,λj v hj=>?_⟩;subst hcs';have lB:j<q.cells.length:=(List.getElem?_eq_some_iff.1 hj).1;have:=Iw j (by first | omega | (rw[<-hlen]; omega));rw[this,hj]
  obtain⟨l,hll,Lh⟩:=rr w a' len key;subst hll;refine⟨l,some a',cap,rfl,by omega,λi (L6:i<l.length)=>?_⟩;obtain⟨h8,hc⟩:=Lh i L6;refine⟨h8,?_⟩;obtain⟨ab,ao,asp⟩:=a'
  have has:asp=none:=by
   cases asp with
   | none=>rfl
   | some z =>
    exfalso;have c0:=(Lh 0 (by omega)).2 0 (.string l[0].kind) (by simp[Ac.cells]);simp[Addr.add,World.cell?]at c0
    split at c0<;>simp at c0
  subst has;have Ko:=block_lt_of_cell ((Lh 0 (by omega)).2 0 (.string l[0].kind) (by simp[Ac.cells]));refine⟨ab,ao,rfl,by simpa[Addr.add] using Ko,λj v hj=>?_⟩;have:=hc j v hj;rw[Addr.add_mid,Addr.add_mid]at this;exact this
end
end
section
open Go.RowKit Go.Sort
def kE(c:bG):Bool:=decide (c.data.size<=20) && decide (c.want.size<=20)
theorem vS(c:bG)(w:World) : Calls Tryz.prog 36 #[eX c] w λe w'=>e=.returned (.bool (kE c))/\Below w.heap.size w w':=by
 obtain⟨op,who,key,new,typ,at_,stays,data,want⟩:=c;by_cases h:(data.size:Int)<=20
 .have HB:=Hs (kE ⟨op,who,key,new,typ,at_,stays,data,want⟩=decide ((want.size:Int)<=20)) (by unfold kE; rw[decide_eq_true (show(data.size<=20) from by omega),Bool.true_and]; exact decide_eq_decide.2 (by dsimp only; omega));go_enter Tryz.func36,Tryz.ntmps36
  go_wp2;go_ret;exact⟨aA HB.out.symm,ay w _⟩
 .have HB:=Hs (kE ⟨op,who,key,new,typ,at_,stays,data,want⟩=false) (by unfold kE; rw[decide_eq_false (λe=>h (by have e':data.size<=20:=e; omega))]; rfl);go_enter Tryz.func36,Tryz.ntmps36
  go_wp2;go_ret;exact⟨aA HB.out.symm,ay w _⟩
theorem Ee(s:St)(a:Option Addr)(cap:Nat)(w:World)(b:Bool)(h:decide (s.regs.length<=6)=b) : Calls Tryz.prog 35 #[dh s a cap] w λe w'=>e=.returned (.bool b)/\Below w.heap.size w w':=by
 subst h; exact yR s a cap w
theorem Bj(c:bG)(w:World)(b:Bool)(h:kE c=b) : Calls Tryz.prog 36 #[eX c] w λe w'=>e=.returned (.bool b)/\Below w.heap.size w w':=by
 subst h; exact vS c w
theorem ru{w:World}{b o:Nat}{x:Ac}(h:w.rangeAt b o x.cells) : (w.cell? ⟨b,o,none⟩=some (.string x.kind)/\w.cell? ⟨b,o+1,none⟩=some (.int .i64 x.a)/\w.cell? ⟨b,o+2,none⟩=some (.int .i64 x.b)/\w.cell? ⟨b,o+3,none⟩=some (.string x.s)/\w.cell? ⟨b,o+4,none⟩=some (.int .u64 x.k)) /\ (w.cell? ⟨b,o+5,none⟩=some (.int .i64 x.st.gen)/\w.cell? ⟨b,o+6,none⟩=some (.slice x.ra x.st.regs.length x.rc)/\w.cell? ⟨b,o+7,none⟩=some (.int .i64 x.st.typ)/\w.cell? ⟨b,o+8,none⟩=some (.int .i64 x.st.holder)/\w.cell? ⟨b,o+9,none⟩=some (.bool x.st.stays)) /\ (w.cell? ⟨b,o+10,none⟩=some (.int .i64 x.cm.op)/\w.cell? ⟨b,o+11,none⟩=some (.int .i64 x.cm.who)/\w.cell? ⟨b,o+12,none⟩=some (.int .i64 x.cm.key)/\w.cell? ⟨b,o+13,none⟩=some (.int .i64 x.cm.new)/\w.cell? ⟨b,o+14,none⟩=some (.int .i64 x.cm.typ)/\w.cell? ⟨b,o+15,none⟩=some (.int .i64 x.cm.at')/\w.cell? ⟨b,o+16,none⟩=some (.bool x.cm.stays)/\w.cell? ⟨b,o+17,none⟩=some (.string x.cm.data)/\w.cell? ⟨b,o+18,none⟩=some (.string x.cm.want)) :=
 ⟨⟨h 0 _ rfl,h 1 _ rfl,h 2 _ rfl,h 3 _ rfl,h 4 _ rfl⟩,⟨h 5 _ rfl,h 6 _ rfl,h 7 _ rfl,h 8 _ rfl,h 9 _ rfl⟩,h 10 _ rfl,h 11 _ rfl,h 12 _ rfl,h 13 _ rfl,h 14 _ rfl,h 15 _ rfl,h 16 _ rfl,h 17 _ rfl,h 18 _ rfl⟩
theorem uW.below{w w':World}{x:Ac}(h:uW w x)(b:Below w.heap.size w w'):uW w' x:=⟨h.str.below b,h.ki,h.si,h.ai,h.bi,h.ku,h.ci⟩
theorem mI.below{w w':World}{a:Option Addr}{l:List Ac}(h:mI w a l)(b:Below w.heap.size w w'):mI w' a l:=by intro i hi;obtain⟨h1,c,o,h2,h3,h4⟩:=h i hi;exact⟨h1.below b,c,o,h2,Nat.lt_of_lt_of_le h3 b.size,λj v hv=>(b.cell (p:=⟨c,_,none⟩) h3).trans (h4 j v hv)⟩
theorem pY(l:List Ac)(a:Option Addr)(cap:Nat)(most:Nat)(w:World)(hl:l.length<=maxLen)(hr:mI w a l) : Calls Tryz.prog 5 #[.slice a l.length cap,.int .i64 most] w λe w'=>∃b:Bool,e=.returned (.bool b)/\(b=true->l.length<=most/\∀x∈l,x.s.size<=100)/\Below w.heap.size w w':=by
 unfold maxLen at hl;have HR:=Hx hr;clear hr;by_cases hm:l.length<=most
 .have hmb:decide (most<l.length)=false:=by simp; omega
  go_enter Tryz.func5,Tryz.ntmps5
  go_wp2;go_loopw [5] (λi wr=>∃k:Nat,k<=l.length/\i=.int .i64 k/\(∀j (h:j<l.length),j<k->l[j].s.size<=100)/\Below w.heap.size w wr) (λi _=>l.length - (intOf i).toNat)
  case atStart=>exact⟨0,by omega,rfl,λj _ h=>absurd h (by omega),Below.refl _ _⟩
  case round =>
   obtain⟨k,hk,rfl,hS,hB⟩:=hrel;have HS:=Hx hS;have HB:=Hx hB;clear hS hB;by_cases lB:k<l.length
   .obtain⟨ok,b,o,rfl,hb,hrange⟩:=HR.out k lB;have hrg:wr.rangeAt b (o+k*19) l[k].cells:=λj v hv=>(HB.out.cell (p:=⟨b,_,none⟩) hb).trans (hrange j v hv);have okr:=ok.below HB.out;obtain⟨X,hX⟩:=Nm (l[k]);rw[hX]at hrg okr;have HX:=Hx hX;obtain⟨⟨c0,c1,c2,c3,c4⟩,⟨d0,d1,d2,d3,d4⟩,e0,e1,e2,e3,e4,e5,e6,e7,e8⟩:=ru hrg;have OKR:=Hx okr;obtain⟨B1,hB1⟩:=Nm (decide (X.st.regs.length<=6));obtain⟨B2,hB2⟩:=Nm (kE X.cm);have LS:=Hx (λ(w:World)=>Ee X.st X.ra X.rc w B1 hB1);have LC:=Hx (λ(w:World)=>Bj X.cm w B2 hB2);clear hB1 hB2;clear hrange hX hrg okr ok;by_cases hs:X.s.size<=100
    .have NC:decide ((100:Int)<(X.s.size:Int))=false:=by simp; omega
     go_wp2_with fail;refine(LS.out _).mono ?_;rintro e w3 ⟨rfl,b3⟩;have HB3:=Hx (HB.out.trans (b3.mono HB.out.size));have IK:b<w3.heap.size:=Nat.lt_of_lt_of_le (Nat.lt_of_lt_of_le hb HB.out.size) b3.size;cases B1
     .go_wp2;go_ret;exact⟨false,rfl,λh=>absurd h (by decide),HB3.out⟩
     .have q:=λ(i:Nat)=>b3.cell (p:=⟨b,o+k*19+i,none⟩) (Nat.lt_of_lt_of_le hb HB.out.size);have e0':=(q 10).trans e0;have e1':=(q 11).trans e1;have e2':=(q 12).trans e2;have e3':=(q 13).trans e3;have e4':=(q 14).trans e4;have e5':=(q 15).trans e5;have e6':=(q 16).trans e6;have e7':=(q 17).trans e7;have e8':=(q 18).trans e8;clear q c0 c1 c2 c3 c4 d0 d1 d2 d3 d4 e0 e1 e2 e3 e4 e5 e6 e7 e8 b3;go_wp2_with fail;refine(LC.out _).mono ?_;rintro e w4 ⟨rfl,b4⟩;have NA:=Hx (HB3.out.trans (b4.mono HB3.out.size));clear b4;cases B2
      .go_wp2;go_ret;exact⟨false,rfl,λh=>absurd h (by decide),NA.out⟩
      .go_wp2;go_roundw
       case rel=>exact⟨k+1,by omega,by go_num,λj h hj=>by
        rcases (by omega:j<k\/j=k) with h1 | rfl
        .exact HS.out j h h1
        .rw[HX.out]; exact hs,NA.out⟩
       case measure=>simp[intOf]; omega
    .have NC:decide ((100:Int)<(X.s.size:Int))=true:=by simp; omega
     go_wp2;go_ret;exact⟨false,rfl,λh=>absurd h (by decide),HB.out⟩
   .go_wp2;go_ret
    exact⟨true,rfl,λ_=>⟨hm,λx hx=>by
     obtain⟨j,hj,rfl⟩:=List.mem_iff_getElem.1 hx
     exact HS.out j hj (by omega)⟩,HB.out⟩
 .go_enter Tryz.func5,Tryz.ntmps5
  go_wp2;go_ret;exact⟨false,rfl,λh=>absurd h (by decide),Below.refl _ _⟩
def Aw:ByteArray:=⟨#[117,112]⟩
def oG:ByteArray:=⟨#[100,111,119,110]⟩
def Ax:ByteArray:=⟨#[102,101,110,99,101]⟩
def qE:ByteArray:=⟨#[115,121,110,99]⟩
structure G7 where
 g:Gp
 ep:Nat
 n:Nat
def Eg(s:G7)(x:Ac):G7 :=
 if x.kind=Aw\/x.kind=oG then ⟨s.g.setU x.a.toNat (decide (x.kind=Aw)),s.ep,s.n⟩
 else if x.kind=Ax then(if 2<=((s.g.fence (s.ep+1)).mem (s.ep+1)).length then ⟨s.g.fence (s.ep+1),s.ep+1,s.n⟩ else s)
 else if x.kind=qE then ⟨s.g.sync s.ep x.a.toNat,s.ep,s.n⟩
 else ⟨s.g.deliver x.a.toNat x.b.toNat ⟨s.ep,s.n+1,x.s⟩,s.ep,s.n+1⟩
def se(l:List Ac):G7:=l.foldl Eg ⟨Gp.start,1,0⟩
structure LD (w:World) (G:Nat) (g:Gp) (wx:World):Prop where
 below:Below w.heap.size w wx
 ok:g.ok
 hG:wx.heap[G]?=some (.cells g.arr 69 (0,0))
 hZ:wx.heap[w.heap.size]?=some (.cells Gp.zero.arr 69 (0,0))
 lo:w.heap.size<G
theorem LD.lt{w wx:World}{G:Nat}{g:Gp}(f:LD w G g wx):G<wx.heap.size:=(Gl f.hG)
theorem LD.over{w wx w':World}{G:Nat}{g:Gp}(f:LD w G g wx)(b:Below wx.heap.size wx w'):LD w G g w' :=
 ⟨f.below.trans (b.mono f.below.size),f.ok,(b.block _ f.lt).trans f.hG,(b.block _ (Gl f.hZ)).trans f.hZ,f.lo⟩
theorem LD.put{w wx:World}{G:Nat}{g:Gp}(f:LD w G g wx){h:Gp}(ok:h.ok):LD w G h (wx.setRow G h.arr):=by have kp:=(ac.refl (·=G) wx).setRow (g:=G) rfl h.arr;have:=f.lo;exact⟨f.below.trans (kp.below f.below.size (λm hm=>by omega)),ok,setRow_heap _ _ _ _ _ _ f.hG,(kp.block _ (by omega) (Gl f.hZ)).trans f.hZ,f.lo⟩
theorem LD.setU{w wx:World}{G:Nat}{g:Gp}(f:LD w G g wx)(i:Nat)(b:Bool):LD w G (g.setU i b) (wx.setCell ⟨G,75+i,none⟩ (.bool b)):=by have kp:=(ac.refl (·=G) wx).setCell (p:=⟨G,75+i,none⟩) rfl (.bool b);have:=f.lo;exact⟨f.below.trans (kp.below f.below.size (λm hm=>by omega)),f.ok.setU i b,xG f.hG f.ok b,(kp.block _ (by omega) (Gl f.hZ)).trans f.hZ,f.lo⟩
theorem LD.done{w wx:World}{G:Nat}{g:Gp}(f:LD w G g wx)(cs:Array Value):Below w.heap.size w (wx.setRow w.heap.size cs) :=
 f.below.trans (((ac.refl (·=w.heap.size) wx).setRow rfl _).below f.below.size (λm hm=>by omega))
theorem sU:Tryz.prog.underlying 41=some (.struct (Tryz.prog.fieldsOf 41))/\(Tryz.prog.info? 41).map (·.size)=some 19:=by constructor<;>kernel_rfl
theorem EK(x:Ac):x.cells.toArray.all (·.oneCell')=true:=by
 apply all_oneCell_toArray;intro v hv;simp only[Ac.cells,List.mem_cons,List.mem_nil_iff,or_false]at hv
 rcases hv with rfl | rfl | rfl | rfl | rfl | rfl | rfl | rfl | rfl | rfl | rfl | rfl | rfl | rfl | rfl | rfl | rfl | rfl | rfl<;>rfl
theorem EU(kd:ByteArray):(kd.toList == [117,112])=decide (kd=Aw):=by rw[<-jy,show Aw.toList=[117,112] from by rw[ByteArray.toList_eq]; rfl]
theorem xC(kd:ByteArray):(kd.toList == [100,111,119,110])=decide (kd=oG):=by rw[<-jy,show oG.toList=[100,111,119,110] from by rw[ByteArray.toList_eq]; rfl]
theorem xA(kd:ByteArray):(kd.toList == [115,121,110,99])=decide (kd=qE):=by rw[<-jy,show qE.toList=[115,121,110,99] from by rw[ByteArray.toList_eq]; rfl]
def Ge:Array Value:=#[.string ⟨#[]⟩,.int .i64 0,.int .i64 0,.string ⟨#[]⟩,.int .u64 0,.int .i64 0,.slice none 0 0,.int .i64 0,.int .i64 0,.bool false,.int .i64 0,.int .i64 0,.int .i64 0,.int .i64 0,.int .i64 0,.int .i64 0,.bool false,.string ⟨#[]⟩,.string ⟨#[]⟩]
def xQ(l:List Ac)(w:World)(e:Ending)(w':World):Prop :=
 ∃(g:Gp) (ep:Nat) (ok:Bool),e=.returned (.tuple #[.agg g.arr,.int .i64 ep,.bool ok])/\g.ok/\(ok=true->g=(se l).g/\ep=(se l).ep/\1<=ep/\ep<=l.length+1)/\Below w.heap.size w w'
theorem xQ.mk{l:List Ac}{w:World}{e:Ending}{w':World}(g:Gp)(ep:Nat)(ok:Bool)(h:e=.returned (.tuple #[.agg g.arr,.int .i64 ep,.bool ok]))(hg:g.ok)(hk:ok=true->g=(se l).g/\ep=(se l).ep/\1<=ep/\ep<=l.length+1)(b:Below w.heap.size w w'):xQ l w e w':=⟨g,ep,ok,h,hg,hk,b⟩
