import Derived.Test.YtjalgpcigojpkaaGreatDoorQ15
set_option maxRecDepth 99999
set_option maxHeartbeats 99999999
namespace Go.Proofs.YtjalgpcigojpkaaGreatDoor
section
open Go.RowKit Go.Sort
theorem kR(f:Int)(w:World) : Calls Tryz.prog 125 #[.iface 108 (.int .i64 f)] w λe w'=>e=.returned (.tuple #[.agg #[.int .i64 0,.slice none 0 0,.int .i64 0,.int .i64 0,.bool false],.slice none 0 0,.iface 108 (.int .i64 f)])/\Below w.heap.size w w':=by
 go_enter Tryz.func125,Tryz.ntmps125
 go_wp2;exact bodyPost_ret (v:=.tuple #[.agg #[.int .i64 0,.slice none 0 0,.int .i64 0,.int .i64 0,.bool false],.slice none 0 0,.iface 108 (.int .i64 f)]) (by simp[results,Tryz.results125,go_sem]) rfl ⟨rfl,by repeat(first|exact Below.refl _ _ | refine Below.alloc ?_ (by simp) _)⟩
theorem Ao(w:World):bj w St.zero none:=⟨by simp[St.zero],bE.nil _ _ _⟩
theorem wI{s:St}{a:Option Addr}{c:bG}{w w':World}{f:Int}(hp:dy s c=(St.zero,[],f))(hb:Below w.heap.size w w') : cO a (dy s c) w (.returned (.tuple #[.agg #[.int .i64 0,.slice none 0 0,.int .i64 0,.int .i64 0,.bool false],.slice none 0 0,bg f])) w' :=
 cO.mk (t:=St.zero) (a:=none) (cap:=0) hp rfl (Ao _) (.inr (λb o e=>by cases e)) (bI _ _) hb
theorem sk{w w2 w':World}(hb:Below w.heap.size w w2)(k:ac (·=w.heap.size+1+1) w2 w'):Below w.heap.size w w':=hb.trans (k.below hb.size (λm hm=>by omega))
theorem oO(s:St)(a:Option Addr)(cap:Nat)(c:bG)(w:World)(hr:bj w s a)(hl:sX s.regs 40)(hw:0<=c.who/\c.who<=1000)(r:St)(lt:List (Int × Int))(h:aR s c=(r,lt)) : Calls Tryz.prog 127 #[dh s a cap,eX c] w λe w'=>∃a' c' v,e=.returned (.tuple #[.agg #[.int .i64 r.gen,.slice a' r.regs.length c',.int .i64 r.typ,.int .i64 r.holder,.bool r.stays],v])/\bj w' r a'/\(∀b o,a'=some ⟨b,o,none⟩->w.heap.size<=b)/\bT w.heap.size w' v lt/\Below w.heap.size w w':=by
 have:=rP s a cap c w hr hl.len hw hl.bound hl.sort;rw[h]at this;exact this
theorem yu(s:St)(a:Option Addr)(cap:Nat)(c:bG)(w:World)(hr:bj w s a)(r:St)(f:Int)(h:bB s c=(r,f)) : Calls Tryz.prog 128 #[dh s a cap,eX c] w λe w'=>e=.returned (.tuple #[.agg #[.int .i64 s.gen,.slice a s.regs.length cap,.int .i64 r.typ,.int .i64 r.holder,.bool s.stays],bg f])/\Below w.heap.size w w':=by
 have:=Hw s a cap c w hr;unfold fg at this;rw[h]at this;exact this
theorem yv(s:St)(a:Option Addr)(cap:Nat)(c:bG)(w:World)(hr:bj w s a)(hl:sX s.regs 40)(r:St)(lt:List (Int × Int))(f:Int)(h:aL s c=(r,lt,f)) : Calls Tryz.prog 129 #[dh s a cap,eX c] w λe w'=>∃v,e=.returned (.tuple #[.agg #[.int .i64 s.gen,.slice a s.regs.length cap,.int .i64 r.typ,.int .i64 r.holder,.bool s.stays],v,bg f])/\bT w.heap.size w' v lt/\Below w.heap.size w w':=by
 have:=ua s a cap c w hr (by have:=hl.len; omega);rw[h]at this;exact this
theorem yz(s:St)(a:Option Addr)(cap:Nat)(c:bG)(w:World)(hr:bj w s a)(hl:sX s.regs 40)(r:St)(lt:List (Int × Int))(f:Int)(h:aI s c=(r,lt,f)) : Calls Tryz.prog 133 #[dh s a cap,eX c] w λe w'=>∃a' c' v,e=.returned (.tuple #[.agg #[.int .i64 r.gen,.slice a' r.regs.length c',.int .i64 r.typ,.int .i64 r.holder,.bool r.stays],v,bg f])/\bj w' r a'/\(a'=a\/∀b o,a'=some ⟨b,o,none⟩->w.heap.size<=b)/\bT w.heap.size w' v lt/\Below w.heap.size w w':=by
 have:=uj s a cap c w hr hl;rw[h]at this;exact this
theorem j0{s r:St}{c:bG}{f:Int}(h:bB s c=(r,f)):r.gen=s.gen/\r.regs=s.regs/\r.stays=s.stays:=by
 unfold bB at h
 split at h
 .split at h<;>(cases h; exact⟨rfl,rfl,rfl⟩)
 .cases h; exact⟨rfl,rfl,rfl⟩
theorem j5{s r:St}{c:bG}{f:Int}{lt:List (Int × Int)}(h:aL s c=(r,lt,f)):r.gen=s.gen/\r.regs=s.regs/\r.stays=s.stays:=by
 unfold aL at h
 split at h
 .cases h; exact⟨rfl,rfl,rfl⟩
 .split at h
  .cases h; exact⟨rfl,rfl,rfl⟩
  .split at h<;>(cases h; exact⟨rfl,rfl,rfl⟩)
theorem ui{s r:St}{c:bG}{f:Int}{lt:List (Int × Int)}(h:aI s c=(r,lt,f)):r.regs.length<=s.regs.length:=by
 unfold aI at h
 split at h
 .cases h; exact Nat.le_refl _
 .dsimp only at h
  split at h
  .split at h
   .cases h; exact Nat.le_refl _
   .cases h; exact iJ _ _
  .cases h; exact iJ _ _
theorem yC(s:St)(c:bG):(bH s c).1.gen=s.gen:=by
 unfold bH
 split
 .show(aR s c).1.gen=s.gen
  unfold aR; dsimp only; (repeat' split)<;>rfl
 .split
  .exact(j0 (r:=(bB s c).1) (f:=(bB s c).2) rfl).1
  .split
   .exact(j5 (r:=(aL s c).1) (lt:=(aL s c).2.1) (f:=(aL s c).2.2) rfl).1
   .split
    .rfl
    .split
     .unfold aI; dsimp only; (repeat' split)<;>rfl
     .rfl
theorem sF{s:St}{a a3:Option Addr}{c3:Nat}{c:bG}{w w2 wo wx w':World}{r:St}{l:List (Int × Int)}{v:Value}{M:Nat}(hp:dy s c=(r,l,0))(hs:bj wo r a3)(hA:(a3=a/\r.regs.length<=s.regs.length)\/∀b o,a3=some ⟨b,o,none⟩->w2.heap.size<=b)(h0:bE w.heap.size wo a s.regs)(hN:w.heap.size+1+1<w2.heap.size)(hb:Below w.heap.size w wo)(ho:bT w2.heap.size wo v l)(k0:ac (·=M) wo wx)(hM:M<w2.heap.size)(k:ac (·=w.heap.size+1+1) wx w')(hMN:w.heap.size<=M) : cO a (dy s c) w (.returned (.tuple #[.agg #[.int .i64 r.gen,.slice a3 r.regs.length c3,.int .i64 r.typ,.int .i64 r.holder,.bool r.stays],v,.nilIface])) w':=by
 have Jq:Below w.heap.size w wx:=hb.trans (k0.below hb.size (λm hm=>by omega));refine cO.mk hp rfl ⟨hs.len,λi hi=>?_⟩ (hA.imp (λh=>h.1) (λh b o e=>by have:=h b o e; omega)) (((ho.keeps k0 (λm hm=>by omega)).keeps k (λm hm=>by omega)).mono (by omega)) (Jq.trans (k.below Jq.size (λm hm=>by omega)));obtain⟨b,o,e,wC,c1,c2⟩:=hs.rep i hi
 have hn:b≠w.heap.size+1+1/\b≠M:=by
  rcases hA with⟨rfl,hl⟩ | hA
  .obtain⟨b',o',e',Jk,-⟩:=h0 i (Nat.lt_of_lt_of_le hi hl);rw[e]at e';cases e'
   omega
  .have:=hA b o e; omega
 have hbx1:=Nat.lt_of_lt_of_le wC k0.size;exact⟨b,o,e,Nat.lt_of_lt_of_le hbx1 k.size,by rw[k.cell hn.1 hbx1,k0.cell hn.2 wC]; exact c1,by rw[k.cell hn.1 hbx1,k0.cell hn.2 wC]; exact c2⟩
def l6(a:Option Addr)(n:Nat)(r:St)(lt:List (Int × Int))(w2:World)(M:Nat)(v:Value)(wx:World):Prop :=
 ∃a3 c3,((a3=a/\r.regs.length<=n)\/∀b o,a3=some ⟨b,o,none⟩->w2.heap.size<=b)/\bT w2.heap.size wx v lt/\wx.heap[M]?=some (.cells #[.int .i64 r.gen,.slice a3 r.regs.length c3,.int .i64 r.typ,.int .i64 r.holder,.bool r.stays] 34 (0,0))/\bj wx r a3/\ac (·=M) w2 wx
theorem l6.mk{a a3:Option Addr}{c3:Nat}{r s:St}{lt:List (Int × Int)}{w2 w3 wx:World}{M B0:Nat}{v:Value}(hs:bj w3 r a3)(hA:a3=a\/∀b o,a3=some ⟨b,o,none⟩->w2.heap.size<=b)(hp:bE B0 w2 a s.regs)(hB0:B0<=M)(hl:r.regs.length<=s.regs.length\/∀b o,a3=some ⟨b,o,none⟩->w2.heap.size<=b)(ho:bT w2.heap.size w3 v lt)(hb:Below w2.heap.size w2 w3)(hM:M<w2.heap.size)(h:wx.heap[M]?=some (.cells #[.int .i64 r.gen,.slice a3 r.regs.length c3,.int .i64 r.typ,.int .i64 r.holder,.bool r.stays] 34 (0,0)))(k:ac (·=M) w3 wx):l6 a s.regs.length r lt w2 M v wx:=by
 have hA2:(a3=a/\r.regs.length<=s.regs.length)\/∀b o,a3=some ⟨b,o,none⟩->w2.heap.size<=b:=by
  rcases hA with h1 | h1
  .rcases hl with h2 | h2
   .exact .inl ⟨h1,h2⟩
   .exact .inr h2
  .exact .inr h1
 refine⟨a3,c3,hA2,ho.keeps k (λm hm=>by omega),h,?_,(ac.of_below hb).trans k⟩;refine⟨hs.len,λi hi=>?_⟩;obtain⟨b,o,e,wC,c1,c2⟩:=hs.rep i hi
 have hn:b≠M:=by
  rcases hA with rfl | hA
  .rcases hl with hl | hl
   .obtain⟨b',o',e',Jk,-⟩:=hp i (by omega);rw[e]at e';cases e'
    omega
   .have:=hl b o e; omega
  .have:=hA b o e; omega
 exact⟨b,o,e,Nat.lt_of_lt_of_le wC k.size,by rw[k.cell hn wC]; exact c1,by rw[k.cell hn wC]; exact c2⟩
theorem FQ(s:St)(a:Option Addr)(cap:Nat)(c:bG)(w:World)(hr:bj w s a)(hl:sX s.regs 40)(hw:0<=c.who/\c.who<=1000)(h1:1<=c.op)(hg:0<=s.gen/\s.gen<=1000000000) : Calls Tryz.prog 86 #[dh s a cap,eX c] w (cO a (dy s c) w):=by
 have HR:=Hx hr;have HL:=Hx hl;have HRQ:=Hx (λo p q d os=>(hr.below (dt w o p q)).below (below_regrown (((w.alloc o).alloc p).alloc q) d os));clear hr hl;by_cases h6:6<c.op
 .have P1:=Hs (dy s c=(St.zero,[],2)) (by unfold dy; rw[if_pos h6]);go_enter Tryz.func86,Tryz.ntmps86
  go_wp2_with fail;refine(kR 2 _).mono ?_;rintro e w1 ⟨rfl,b1⟩
  have hN:w.heap.size+1+1<w1.heap.size:=by have:=b1.size; simp at this; omega
  obtain⟨⟨z0,z1,z2,z3,z4⟩,y0,y1,y2,y3,y4⟩:=bP b1 (b:=w.heap.size+1+1) (by simp) (aO w _ _ _).2.2;have B1:=Hx ((dt w _ _ _).trans (b1.mono (dt w _ _ _).size));clear b1;go_wp2;refine bodyPost_ret (v:=.tuple #[.agg #[.int .i64 0,.slice none 0 0,.int .i64 0,.int .i64 0,.bool false],.slice none 0 0,.iface 108 (.int .i64 2)]) (by simp[results,Tryz.results86,go_sem, *]) rfl ?_;refine wI P1.out (sk B1.out ?_)
  repeat(first|with_reducible exact ac.refl _ _ | (with_reducible refine ac.drew ?_)|(with_reducible refine af ?_ _ _))
 have M7:=Hx (show dy s c=(if (c.op=1/\keyOf s.regs c.who≠c.key)\/(2<c.op/\fD s c=false) then(St.zero,[],4)
  else if (bH s c).2.2≠0 then(St.zero,[],(bH s c).2.2)
  else if c.op≠3/\c.op≠4 then((bH s c).1.next,(bH s c).2.1,0) else((bH s c).1,(bH s c).2.1,0)) from by unfold dy; rw[if_neg h6])
 obtain⟨D,hD⟩:∃D,decide ((c.op=1/\keyOf s.regs c.who≠c.key)\/(2<c.op/\fD s c=false))=D:=⟨_,rfl⟩
 have HD:=Hx hD;clear hD;go_enter Tryz.func86,Tryz.ntmps86
 go_upto_region 4 with fail;go_cut [42] (λv wx=>v=.bool D/\Below (((w.alloc (.cells #[.int .i64 s.gen,.slice a s.regs.length cap,.int .i64 s.typ,.int .i64 s.holder,.bool s.stays] 34)).alloc (.cells #[.int .i64 c.op,.int .i64 c.who,.int .i64 c.key,.int .i64 c.new,.int .i64 c.typ,.int .i64 c.at',.bool c.stays,.string c.data,.string c.want] 39)).alloc (.cells #[.int .i64 0,.slice none 0 0,.int .i64 0,.int .i64 0,.bool false] 34)).heap.size (((w.alloc (.cells #[.int .i64 s.gen,.slice a s.regs.length cap,.int .i64 s.typ,.int .i64 s.holder,.bool s.stays] 34)).alloc (.cells #[.int .i64 c.op,.int .i64 c.who,.int .i64 c.key,.int .i64 c.new,.int .i64 c.typ,.int .i64 c.at',.bool c.stays,.string c.data,.string c.want] 39)).alloc (.cells #[.int .i64 0,.slice none 0 0,.int .i64 0,.int .i64 0,.bool false] 34)) wx)
 case first =>
  have hq:=λ(o p q:Obj)=>cH (Below.refl (((w.alloc o).alloc p).alloc q).heap.size (((w.alloc o).alloc p).alloc q));by_cases h1:c.op=1
  .have h1b:(c.op == 1)=true:=by simp[h1]
   have h2b:decide (2<c.op)=false:=by simp[h1]
   have PD:=Hs (D=(keyOf s.regs c.who != c.key)) (by rw[<-HD.out,Bool.eq_iff_iff]; simp[h1]);clear h1 h6;cases hk:(keyOf s.regs c.who != c.key)
   .rw[hk]at PD;refine wp_region_quiet_below (by kernel_rfl) (by kernel_rfl) ?_
    repeat(go_big_quiet_step (exact Calls.regrown_of (eN s a cap c.who _ (HRQ.out _ _ _ _ _))))
    refine wpQuiet_nil ?_;rintro w' ⟨⟨dq,osq⟩,rfl⟩;go_wp2_with fail;go_meet;exact⟨by rw[PD.out],below_regrown _ dq osq⟩
   .rw[hk]at PD;refine wp_region_quiet_below (by kernel_rfl) (by kernel_rfl) ?_
    repeat(go_big_quiet_step (exact Calls.regrown_of (eN s a cap c.who _ (HRQ.out _ _ _ _ _))))
    refine wpQuiet_nil ?_;rintro w' ⟨⟨dq,osq⟩,rfl⟩;go_wp2_with fail;go_meet;exact⟨by rw[PD.out],below_regrown _ dq osq⟩
  .have h1b:(c.op == 1)=false:=by simp[h1]
   by_cases h2:2<c.op
   .have PD:=Hs (D=!fD s c) (by rw[<-HD.out,Bool.eq_iff_iff]; simp[h1,h2]);clear h1 h6;refine wp_region_quiet_below (by kernel_rfl) (by kernel_rfl) ?_
    repeat(go_big_quiet_step (exact Calls.regrown_of (vN s a cap c _ (HRQ.out _ _ _ _ _))))
    refine wpQuiet_nil ?_;rintro w' ⟨⟨dq,osq⟩,rfl⟩;go_wp2_with fail;go_meet;exact⟨by rw[PD.out],below_regrown _ dq osq⟩
   .have PD:=Hs (D=false) (by rw[<-HD.out]; simp[h1,h2]);clear h1 h6;refine wp_region_quiet_below (by kernel_rfl) (by kernel_rfl) ?_
    repeat(go_big_quiet_step (fail))
    refine wpQuiet_nil ?_;rintro w' ⟨⟨dq,osq⟩,rfl⟩;go_wp2_with fail;go_meet;exact⟨by rw[PD.out],below_regrown _ dq osq⟩
 case rest =>
  obtain⟨rfl,b1⟩:=hcut;have HR1:=Hx ((HR.out.below (dt w _ _ _)).below b1)
  have hM:w.heap.size+1+1<wc.heap.size:=by have:=b1.size; simp at this; omega
  have hM0:w.heap.size<wc.heap.size:=by omega
  have hM1:w.heap.size+1<wc.heap.size:=by omega
  have HS1:=Hx ((b1.block w.heap.size (by simp<;>omega)).trans (aO w _ _ _).1);have HC1:=Hx ((b1.block (w.heap.size+1) (by simp<;>omega)).trans (aO w _ _ _).2.1);have HZ1:=Hx ((b1.block (w.heap.size+1+1) (by simp<;>omega)).trans (aO w _ _ _).2.2);have B1:=Hx ((dt w _ _ _).trans (b1.mono (dt w _ _ _).size));clear b1 HRQ;cases D
  .have I0:=Hx (M7.out.trans (if_neg (by simpa using HD.out)));clear M7 HD;obtain⟨⟨d0,d1,d2,d3,d4⟩,-⟩:=bP (Below.refl wc.heap.size wc) hM0 HS1.out;go_upto_region 7 with fail;obtain⟨w2,IQ⟩:=Nn (wc.alloc (.cells #[.int .i64 s.gen,.slice a s.regs.length cap,.int .i64 s.typ,.int .i64 s.holder,.bool s.stays] 34));rw[<-IQ];have Ol:=Hs (w2.heap[wc.heap.size]?=some (.cells #[.int .i64 s.gen,.slice a s.regs.length cap,.int .i64 s.typ,.int .i64 s.holder,.bool s.stays] 34 (0,0))) (IQ▸heap_alloc_new _ _);have Kt:=Hs (Below wc.heap.size wc w2) (IQ▸ay wc _)
   have Jn:wc.heap.size<w2.heap.size:=by rw[IQ]; simp
   clear IQ;have Nx:=Hx ((Kt.out.block _ hM0).trans HS1.out);have MF:=Hx ((Kt.out.block _ hM1).trans HC1.out);have HZ2:=Hx ((Kt.out.block _ hM).trans HZ1.out)
   have k0:w2.cell? ⟨w.heap.size+1,0,none⟩=some (.int .i64 c.op):=by simp[World.cell?,MF.out]
   clear d0 d1 d2 d3 d4
   obtain⟨⟨r,lt,f⟩,hR⟩:∃R,bH s c=R:=⟨_,rfl⟩
   have Ny:=Hx hR;rw[hR]at I0;clear hR;dsimp only at I0
   go_upto_block 0 with fail
   go_cut [9,10] (λv u wx=>u=bg f/\l6 a s.regs.length r lt w2 wc.heap.size v wx)
   case first =>
    obtain⟨⟨d0,d1,d2,d3,d4⟩,-⟩:=bP (Below.refl w2.heap.size w2) (by omega) Nx.out
    have k1:w2.cell? ⟨w.heap.size+1,1,none⟩=some (.int .i64 c.who):=by simp[World.cell?,MF.out]
    have k2:w2.cell? ⟨w.heap.size+1,2,none⟩=some (.int .i64 c.key):=by simp[World.cell?,MF.out]
    have k3:w2.cell? ⟨w.heap.size+1,3,none⟩=some (.int .i64 c.new):=by simp[World.cell?,MF.out]
    have k4:w2.cell? ⟨w.heap.size+1,4,none⟩=some (.int .i64 c.typ):=by simp[World.cell?,MF.out]
    have k5:w2.cell? ⟨w.heap.size+1,5,none⟩=some (.int .i64 c.at'):=by simp[World.cell?,MF.out]
    have k6:w2.cell? ⟨w.heap.size+1,6,none⟩=some (.bool c.stays):=by simp[World.cell?,MF.out]
    have k7:w2.cell? ⟨w.heap.size+1,7,none⟩=some (.string c.data):=by simp[World.cell?,MF.out]
    have k8:w2.cell? ⟨w.heap.size+1,8,none⟩=some (.string c.want):=by simp[World.cell?,MF.out]
    have HR2:=Hx (HR1.out.below Kt.out);have HRW:=Hx (HR.out.rep.below (B1.out.trans (Kt.out.mono B1.out.size)) (Nat.le_refl _))
    rcases (by omega:c.op=1\/c.op=2\/c.op=3\/c.op=4\/c.op=5\/c.op=6) with h | h | h | h | h | h
    .have hop1:(c.op == 1)=true:=by simp[h]
     have HE:=Hs (aR s c=(r,lt)/\f=0) (by have:=Ny.out; simp[bH,h]at this; simp[<-this.1,<-this.2.1,this.2.2.symm]);clear h;go_wp2_with fail;refine(oO s a cap c _ HR2.out HL.out hw r lt HE.out.1).mono ?_;rintro e w3 ⟨a3,c3,v3,rfl,JY,lo3,Kv,b3⟩;obtain⟨⟨t0,t1,t2,t3,t4⟩,p0,p1,p2,p3,p4⟩:=bP b3 Jn Ol.out;have Nv:=Hx ((b3.block _ Jn).trans Ol.out);have FIN:=Hx (λwx h k=>l6.mk (s:=s) (M:=wc.heap.size) (wx:=wx) (c3:=c3) (a:=a) JY (.inr lo3) HRW.out (by omega) (.inr lo3) Kv b3 Jn h k);clear JY lo3 Kv b3;go_wp2_with fail;go_meet;exact⟨by rw[HE.out.2]; rfl,FIN.out _ (block_setCell (block_setCell (block_setCell (block_setCell (block_setCell Nv.out _) _) _) _) _) (af (af (af (af (af (ac.refl _ _) _ _) _ _) _ _) _ _) _ _)⟩
    .have hop1:(c.op == 1)=false:=by simp[h]
     have hop2:(c.op == 2)=true:=by simp[h]
     have HE:=Hs (aR s c=(r,lt)/\f=0) (by have:=Ny.out; simp[bH,h]at this; simp[<-this.1,<-this.2.1,this.2.2.symm]);clear h;go_wp2_with fail;refine(oO s a cap c _ HR2.out HL.out hw r lt HE.out.1).mono ?_;rintro e w3 ⟨a3,c3,v3,rfl,JY,lo3,Kv,b3⟩;obtain⟨⟨t0,t1,t2,t3,t4⟩,p0,p1,p2,p3,p4⟩:=bP b3 Jn Ol.out;have Nv:=Hx ((b3.block _ Jn).trans Ol.out);have FIN:=Hx (λwx h k=>l6.mk (s:=s) (M:=wc.heap.size) (wx:=wx) (c3:=c3) (a:=a) JY (.inr lo3) HRW.out (by omega) (.inr lo3) Kv b3 Jn h k);clear JY lo3 Kv b3;go_wp2_with fail;go_meet;exact⟨by rw[HE.out.2]; rfl,FIN.out _ (block_setCell (block_setCell (block_setCell (block_setCell (block_setCell Nv.out _) _) _) _) _) (af (af (af (af (af (ac.refl _ _) _ _) _ _) _ _) _ _) _ _)⟩
    .have hop1:(c.op == 1)=false:=by simp[h]
     have hop2:(c.op == 2)=false:=by simp[h]
     have Lu:(c.op == 3)=true:=by simp[h]
     have HE:=Hs (bB s c=(r,f)/\lt=[]) (by have:=Ny.out; simp[bH,h]at this; simp[<-this.1,<-this.2.2,this.2.1.symm]);have Om:=Hx (j0 HE.out.1);clear h;go_wp2_with fail;refine(yu s a cap c _ HR2.out r f HE.out.1).mono ?_;rintro e w3 ⟨rfl,b3⟩;obtain⟨⟨t0,t1,t2,t3,t4⟩,p0,p1,p2,p3,p4⟩:=bP b3 Jn Ol.out;have Nv:=Hx ((b3.block _ Jn).trans Ol.out);have FIN:=Hx (λwx h k=>l6.mk (s:=s) (r:=r) (M:=wc.heap.size) (wx:=wx) (c3:=cap) (a:=a) (db (HR2.out.below b3) r Om.out.2.1) (.inl rfl) HRW.out (by omega) (.inl (by rw[Om.out.2.1]; exact Nat.le_refl _)) (bI _ _) b3 Jn h k);clear b3;go_wp2_with fail;go_meet;exact⟨rfl,by rw[HE.out.2]; exact FIN.out _ (by rw[Om.out.1,Om.out.2.1,Om.out.2.2]; exact block_setCell (block_setCell (block_setCell (block_setCell (block_setCell Nv.out _) _) _) _) _) (af (af (af (af (af (ac.refl _ _) _ _) _ _) _ _) _ _) _ _)⟩
    .have hop1:(c.op == 1)=false:=by simp[h]
     have hop2:(c.op == 2)=false:=by simp[h]
     have Lu:(c.op == 3)=false:=by simp[h]
     have NI:(c.op == 4)=true:=by simp[h]
     have HE:=Hs (aL s c=(r,lt,f)) (by have:=Ny.out; simpa[bH,h] using this);have Om:=Hx (j5 HE.out);clear h;go_wp2_with fail;refine(yv s a cap c _ HR2.out HL.out r lt f HE.out).mono ?_;rintro e w3 ⟨v3,rfl,Kv,b3⟩;obtain⟨⟨t0,t1,t2,t3,t4⟩,p0,p1,p2,p3,p4⟩:=bP b3 Jn Ol.out;have Nv:=Hx ((b3.block _ Jn).trans Ol.out);have FIN:=Hx (λwx h k=>l6.mk (s:=s) (r:=r) (M:=wc.heap.size) (wx:=wx) (c3:=cap) (a:=a) (db (HR2.out.below b3) r Om.out.2.1) (.inl rfl) HRW.out (by omega) (.inl (by rw[Om.out.2.1]; exact Nat.le_refl _)) Kv b3 Jn h k);clear Kv b3;go_wp2_with fail;go_meet;exact⟨rfl,FIN.out _ (by rw[Om.out.1,Om.out.2.1,Om.out.2.2]; exact block_setCell (block_setCell (block_setCell (block_setCell (block_setCell Nv.out _) _) _) _) _) (af (af (af (af (af (ac.refl _ _) _ _) _ _) _ _) _ _) _ _)⟩
    .have hop1:(c.op == 1)=false:=by simp[h]
     have hop2:(c.op == 2)=false:=by simp[h]
     have Lu:(c.op == 3)=false:=by simp[h]
     have NI:(c.op == 4)=false:=by simp[h]
     have hop5:(c.op == 5)=true:=by simp[h]
     have HE:=Hs (s.free.withRegs []=r/\az (am c.who s.regs) 3=lt/\f=0) (by have:=Ny.out; simp[bH,h]at this; exact⟨this.1,this.2.1,this.2.2.symm⟩);clear h;obtain⟨O,hO⟩:=Nm (am c.who s.regs)
     have MS:O.length<=40:=by have:=dw c.who s.regs s.regs.length; rw[List.take_length,hO]at this; have:=HL.out.len; omega
     have HO:=Hx hO;clear hO;go_wp2_with fail;refine(lz s.gen s.regs s.typ s.holder s.stays a cap c.who _ HR2.out (by have:=HL.out.len; omega) O HO.out).mono ?_;rintro e w6 ⟨a6,c6,rfl,hi6,b6⟩;go_wp2_with fail;refine(fZ O a6 c6 3 _ (by omega) hi6).mono ?_;rintro e w3 ⟨v3,rfl,Kv,b7⟩;have b3:Below w2.heap.size w2 w3:=b6.trans (b7.mono b6.size)
     have ho3':bT w2.heap.size w3 v3 lt:=by rw[<-HE.out.2.1,HO.out]; exact Kv.mono b6.size
     have hM3:wc.heap.size<w3.heap.size:=Nat.lt_of_lt_of_le Jn b3.size;obtain⟨⟨d0,d1,d2,d3,d4⟩,-⟩:=bP b3 (by omega) Nx.out;have Nv:=Hx ((b3.block _ Jn).trans Ol.out);have HO3:=Hx ho3';have B3:=Hx b3;clear hi6 b6 Kv b7 b3 ho3';go_wp2_with fail;refine(fw s.gen s.regs s.typ s.holder s.stays a cap _).mono ?_;rintro e w4 ⟨rfl,b4⟩;obtain⟨⟨t0,t1,t2,t3,t4⟩,p0,p1,p2,p3,p4⟩:=bP b4 hM3 Nv.out;have HT4:=Hx ((b4.block _ hM3).trans Nv.out);have FIN:=Hx (λwx h k=>l6.mk (s:=s) (r:=s.free.withRegs []) (a3:=none) (M:=wc.heap.size) (wx:=wx) (c3:=0) (a:=a) (w3:=w4) ⟨by simp[St.withRegs],bE.nil _ _ _⟩ (.inr (λb o e=>by cases e)) HRW.out (by omega) (.inr (λb o e=>by cases e)) (HO3.out.below b4) (B3.out.trans (b4.mono B3.out.size)) Jn h k);clear b4;go_wp2_with fail;go_meet;exact⟨by rw[HE.out.2.2]; rfl,by rw[<-HE.out.1]; exact FIN.out _ (block_setCell (block_setCell (block_setCell (block_setCell (block_setCell (block_setCell HT4.out _) _) _) _) _) _) (af (af (af (af (af (af (ac.refl _ _) _ _) _ _) _ _) _ _) _ _) _ _)⟩
    .have hop1:(c.op == 1)=false:=by simp[h]
     have hop2:(c.op == 2)=false:=by simp[h]
     have Lu:(c.op == 3)=false:=by simp[h]
     have NI:(c.op == 4)=false:=by simp[h]
     have hop5:(c.op == 5)=false:=by simp[h]
     have hop6:(c.op == 6)=true:=by simp[h]
     have HE:=Hs (aI s c=(r,lt,f)) (by have:=Ny.out; simpa[bH,h] using this);clear h;go_wp2_with fail;refine(yz s a cap c _ HR2.out HL.out r lt f HE.out).mono ?_;rintro e w3 ⟨a3,c3,v3,rfl,JY,hA3,Kv,b3⟩;obtain⟨⟨t0,t1,t2,t3,t4⟩,p0,p1,p2,p3,p4⟩:=bP b3 Jn Ol.out;have Nv:=Hx ((b3.block _ Jn).trans Ol.out);have FIN:=Hx (λwx h k=>l6.mk (s:=s) (M:=wc.heap.size) (wx:=wx) (c3:=c3) (a:=a) JY hA3 HRW.out (by omega) (.inl (ui HE.out)) Kv b3 Jn h k);clear JY hA3 Kv b3;go_wp2_with fail;go_meet;exact⟨rfl,FIN.out _ (block_setCell (block_setCell (block_setCell (block_setCell (block_setCell Nv.out _) _) _) _) _) (af (af (af (af (af (ac.refl _ _) _ _) _ _) _ _) _ _) _ _)⟩
   case rest =>
    obtain⟨wo,rfl⟩:∃wo:World,wo=wc:=⟨_,rfl⟩
    obtain⟨rfl,a3,c3,hA3,Kv,IK,JY,Jo⟩:=hcut;have MW:=(yC s c).symm.trans (congrArg (λx=>x.1.gen) Ny.out);dsimp only at MW
    have Il:0<=r.gen/\r.gen<=1000000000:=by rw[<-MW]; exact hg
    have hM5:wc.heap.size<wo.heap.size:=Nat.lt_of_lt_of_le Jn Jo.size
    have hN5:w.heap.size+1<wo.heap.size:=by omega
    have hN6:w.heap.size+1+1<wo.heap.size:=by omega
    have On:=Hx ((Jo.block (w.heap.size+1) (by omega) (by omega)).trans MF.out);have HZ5:=Hx ((Jo.block (w.heap.size+1+1) (by omega) (by omega)).trans HZ2.out);have HA3:=Hx hA3;have HO3:=Hx Kv;have HB3:=Hx IK;have Nw:=Hx JY;have BB:=Hs (Below w.heap.size w wo) (B1.out.trans ((Kt.out.trans (Jo.below (Nat.le_of_lt Jn) (λm hm=>by omega))).mono B1.out.size));have HR0:=Hx (HR.out.rep.below BB.out (Nat.le_refl _))
    have hM2':w.heap.size+1+1<w2.heap.size:=by omega
    obtain⟨⟨z0,z1,z2,z3,z4⟩,y0,y1,y2,y3,y4⟩:=bP (Below.refl wo.heap.size wo) hN6 HZ5.out;obtain⟨⟨t0,t1,t2,t3,t4⟩,p0,p1,p2,p3,p4⟩:=bP (Below.refl wo.heap.size wo) hM5 HB3.out
    have k0':wo.cell? ⟨w.heap.size+1,0,none⟩=some (.int .i64 c.op):=by simp[World.cell?,On.out]
    have Ik:wc.heap.size≠w.heap.size+1+1:=by omega
    have hne2:w.heap.size+1+1≠wc.heap.size:=by omega
    clear MW hA3 Kv IK JY Jo k0;by_cases hf:f=0
    .subst hf;rw[aH];have JF:=Hx (I0.out.trans (if_neg (by simp)));clear I0;by_cases h34:c.op=3\/c.op=4
     .have M6:=Hx (JF.out.trans (if_neg (by omega)));clear JF;have key:∀(b3 b4:Bool),(c.op != 3)=b3->(c.op != 4)=b4->(b3=false\/b4=false)->True:=λ_ _ _ _ _=>trivial
      rcases h34 with h3 | h4
      .have IK:(c.op != 3)=false:=by simp[h3]
       clear h3 key;go_wp2;refine bodyPost_ret (v:=.tuple #[.agg #[.int .i64 r.gen,.slice a3 r.regs.length c3,.int .i64 r.typ,.int .i64 r.holder,.bool r.stays],u9,.nilIface]) (by simp[results,Tryz.results86,go_sem, *]) rfl ?_;refine sF M6.out Nw.out HA3.out HR0.out hM2' BB.out HO3.out (ac.refl (·=wc.heap.size) _) Jn ?_ (by omega)
       repeat(first|with_reducible exact ac.refl _ _ | (with_reducible refine ac.drew ?_)|(with_reducible refine af ?_ _ _))
      .have IK:(c.op != 3)=true:=by simp[h4]
       have JQ:(c.op != 4)=false:=by simp[h4]
       clear h4 key;go_wp2;refine bodyPost_ret (v:=.tuple #[.agg #[.int .i64 r.gen,.slice a3 r.regs.length c3,.int .i64 r.typ,.int .i64 r.holder,.bool r.stays],u9,.nilIface]) (by simp[results,Tryz.results86,go_sem, *]) rfl ?_;refine sF M6.out Nw.out HA3.out HR0.out hM2' BB.out HO3.out (ac.refl (·=wc.heap.size) _) Jn ?_ (by omega)
       repeat(first|with_reducible exact ac.refl _ _ | (with_reducible refine ac.drew ?_)|(with_reducible refine af ?_ _ _))
     .have M6:=Hx (JF.out.trans (if_pos (by omega)))
      have IK:(c.op != 3)=true:=by rw[bne_iff_ne]; omega
      have JQ:(c.op != 4)=true:=by rw[bne_iff_ne]; omega
      clear JF h34;by_cases hov:1000000000<r.gen+1
      .have HP4:=Hs (dy s c=(⟨0,r.regs,r.typ,r.holder,r.stays⟩,lt,0)) (by rw[M6.out]; simp only[St.next,if_pos hov]);go_wp2;refine bodyPost_ret (v:=.tuple #[.agg #[.int .i64 0,.slice a3 r.regs.length c3,.int .i64 r.typ,.int .i64 r.holder,.bool r.stays],u9,.nilIface]) (by simp[results,Tryz.results86,go_sem, *]) rfl ?_;refine sF (wx:=(wo.setCell ⟨wc.heap.size,0,none⟩ (.int .i64 (r.gen+1))).setCell ⟨wc.heap.size,0,none⟩ (.int .i64 0)) HP4.out (db Nw.out ⟨0,r.regs,r.typ,r.holder,r.stays⟩ rfl) HA3.out HR0.out hM2' BB.out HO3.out (af (af (ac.refl _ _) _ _) _ _) Jn ?_ (by omega)
       repeat(first|with_reducible exact ac.refl _ _ | (with_reducible refine ac.drew ?_)|(with_reducible refine af ?_ _ _))
      .have HP4:=Hs (dy s c=(⟨r.gen+1,r.regs,r.typ,r.holder,r.stays⟩,lt,0)) (by rw[M6.out]; simp only[St.next,if_neg hov]);go_wp2;refine bodyPost_ret (v:=.tuple #[.agg #[.int .i64 (r.gen+1),.slice a3 r.regs.length c3,.int .i64 r.typ,.int .i64 r.holder,.bool r.stays],u9,.nilIface]) (by simp[results,Tryz.results86,go_sem, *]) rfl ?_;refine sF (wx:=wo.setCell ⟨wc.heap.size,0,none⟩ (.int .i64 (r.gen+1))) HP4.out (db Nw.out ⟨r.gen+1,r.regs,r.typ,r.holder,r.stays⟩ rfl) HA3.out HR0.out hM2' BB.out HO3.out (af (ac.refl _ _) _ _) Jn ?_ (by omega)
       repeat(first|with_reducible exact ac.refl _ _ | (with_reducible refine ac.drew ?_)|(with_reducible refine af ?_ _ _))
    .have JF:=Hx (I0.out.trans (if_pos hf));rw[aK hf];clear I0;have HF:=Hx hf;clear hf t0 t1 t2 t3 t4 p0 p1 p2 p3 p4 z0 z1 z2 z3 z4 y0 y1 y2 y3 y4;go_wp2_with fail;refine(kR f _).mono ?_;rintro e w6 ⟨rfl,b6⟩;obtain⟨⟨z0,z1,z2,z3,z4⟩,y0,y1,y2,y3,y4⟩:=bP b6 hN6 HZ5.out;have B6:=Hx (BB.out.trans (b6.mono BB.out.size));clear b6;go_wp2;refine bodyPost_ret (v:=.tuple #[.agg #[.int .i64 0,.slice none 0 0,.int .i64 0,.int .i64 0,.bool false],.slice none 0 0,.iface 108 (.int .i64 f)]) (by simp[results,Tryz.results86,go_sem, *]) rfl ?_;have HE6:=aK HF.out;rw[<-HE6];refine wI JF.out (sk B6.out ?_)
     repeat(first|with_reducible exact ac.refl _ _ | (with_reducible refine ac.drew ?_)|(with_reducible refine af ?_ _ _))
  .have I0:=Hx (M7.out.trans (if_pos (by simpa using HD.out)));clear M7 HD;go_wp2_with fail;refine(kR 4 _).mono ?_;rintro e w2 ⟨rfl,b2⟩;obtain⟨⟨z0,z1,z2,z3,z4⟩,y0,y1,y2,y3,y4⟩:=bP b2 (b:=w.heap.size+1+1) hM HZ1.out;have B2:=Hx (B1.out.trans (b2.mono B1.out.size));clear b2;go_wp2;refine bodyPost_ret (v:=.tuple #[.agg #[.int .i64 0,.slice none 0 0,.int .i64 0,.int .i64 0,.bool false],.slice none 0 0,.iface 108 (.int .i64 4)]) (by simp[results,Tryz.results86,go_sem, *]) rfl ?_;refine wI I0.out (sk B2.out ?_)
   repeat(first|with_reducible exact ac.refl _ _ | (with_reducible refine ac.drew ?_)|(with_reducible refine af ?_ _ _))
end
section
open Go.RowKit
def j8 (g:Gp)(i:Nat):Int:=(g.r.getD i Rp.zero).floor
theorem jN{g:Gp}{ep:Int}{i:Nat}:g.isM ep i=true ↔ g.u.getD i false=true/\j8 g i=ep:=by unfold Gp.isM j8;simp only[Bool.and_eq_true,decide_eq_true_eq]
theorem lR{g:Gp}{i j:Nat}{r:Rp}(hi:i<g.r.length):j8 (g.setR i r) j=if j=i then r.floor else j8 g j:=by
 unfold j8;rw[qX hi]
 split<;>rfl
structure QI (g:Gp) (ep:Int):Prop where
 ok:g.ok
 two:∃i j,i<j/\j<3/\j8 g i=ep/\j8 g j=ep
 le:∀i,i<3->j8 g i<=ep
theorem QI.few{g:Gp}{ep:Int}(h:QI g ep):¬ 2<=(g.mem (ep - 1)).length:=by
 intro hm;obtain⟨i,j,Ln,hj,h1,h2⟩:=h.two
 rcases iR hm Ln hj with e | e
 .have:=(jN.1 e).2; omega
 .have:=(jN.1 e).2; omega
theorem QI.fence{g:Gp}{ep:Int}(h:QI g ep):g.fence ep=g:=by unfold Gp.fence; rw[if_neg h.few]
theorem QI.setU{g:Gp}{ep:Int}(h:QI g ep)(i:Nat)(b:Bool):QI (g.setU i b) ep:=⟨h.ok.setU i b,h.two,h.le⟩
theorem zl(r:Rp)(k:Nat)(c:aw):(r.admitC k c).floor=r.floor:=by unfold Rp.admitC; split<;>rfl
theorem jw{g:Gp}(hg:g.ok){i k:Nat}(hi:i<3)(c:aw)(j:Nat):j8 (g.deliver i k c) j=j8 g j:=by
 unfold Gp.deliver
 split
 .rw[lR (by rw[hg.r3]; exact hi)]
  split
  .rename_i h; subst h; rw[zl]; rfl
  .rfl
 .rfl
theorem QI.deliver{g:Gp}{ep:Int}(h:QI g ep){i k:Nat}(hi:i<3)(c:aw):QI (g.deliver i k c) ep:=by refine⟨Gp.deliver_ok h.ok hi c,?_,λj hj=>by rw[jw h.ok hi]; exact h.le j hj⟩;obtain⟨a,b,h1,h2,h3,h4⟩:=h.two;exact⟨a,b,h1,h2,by rw[jw h.ok hi]; exact h3,by rw[jw h.ok hi]; exact h4⟩
theorem pz{g:Gp}(hg:g.ok)(ep:Int){i:Nat}(hi:i<3)(j:Nat):j8 (g.sync ep i) j=if g.syncs ep i=true/\j=i then ep else j8 g j:=by
 unfold Gp.sync
 split
 .rename_i hs;rw[lR (by rw[hg.r3]; exact hi)];by_cases hj:j=i
  .rw[if_pos hj,if_pos ⟨hs,hj⟩]
  .rw[if_neg hj,if_neg (λe=>hj e.2)]
 .rename_i hs;rw[if_neg (λe=>hs e.1)]
theorem QI.sync{g:Gp}{ep:Int}(h:QI g ep){i:Nat}(hi:i<3):QI (g.sync ep i) ep:=by
 refine⟨Gp.sync_ok h.ok ep i,?_,λj hj=>?_⟩
 .obtain⟨a,b,h1,h2,h3,h4⟩:=h.two;refine⟨a,b,h1,h2,?_,?_⟩
  .rw[pz h.ok ep hi]; split
   .rfl
   .exact h3
  .rw[pz h.ok ep hi]; split
   .rfl
   .exact h4
 .rw[pz h.ok ep hi]; split
  .omega
  .exact h.le j hj
theorem Cd{g:Gp}(hg:g.ok){k:Nat}(c:aw){i:Nat}(hi:i<3)(j:Nat):j8 (g.put1 k c i) j=j8 g j:=by
 unfold Gp.put1;rw[show(i:Int).toNat=i from rfl,lR (by rw[hg.r3]; exact hi)]
 split
 .rename_i h; subst h; rfl
 .rfl
theorem pB{k:Nat}(c:aw)(j:Nat):∀(l:List Int) (g:Gp),g.ok->(∀x∈l,∃i:Nat,x=i/\i<3)->j8 (g.putAll k c l) j=j8 g j/\(g.putAll k c l).u=g.u
 | [],g,_,_=>⟨rfl,rfl⟩
 | x :: l,g,hg,hl=>by obtain⟨i,rfl,hi⟩:=hl x (by simp);have ih:=pB (k:=k) c j l (g.put1 k c i) (Gp.put1_ok hg k c hi) (λy hy=>hl y (by simp[hy]));have e:g.putAll k c ((i:Int) :: l)=(g.put1 k c i).putAll k c l:=rfl;rw[e];exact⟨ih.1.trans (Cd hg c hi j),ih.2⟩
theorem pA{g:Gp}(hg:g.ok)(ep:Int)(k j:Nat):j8 (g.read ep k) j=j8 g j/\(g.read ep k).u=g.u:=by
 unfold Gp.read
 split
 .exact pB _ j _ g hg lE
 .exact⟨rfl,rfl⟩
theorem QI.read{g:Gp}{ep:Int}(h:QI g ep)(k:Nat):QI (g.read ep k) ep:=by refine⟨Gp.read_ok h.ok ep k,?_,λj hj=>by rw[(pA h.ok ep k j).1]; exact h.le j hj⟩;obtain⟨a,b,h1,h2,h3,h4⟩:=h.two;exact⟨a,b,h1,h2,by rw[(pA h.ok ep k _).1]; exact h3,by rw[(pA h.ok ep k _).1]; exact h4⟩
theorem yM{g h:Gp}{ep ep':Int}(e:∀i,i<3->g.isM ep i=h.isM ep' i):g.mem ep=h.mem ep':=by unfold Gp.mem Gp.memTo;congr 1;exact List.filter_congr λi hi=>e i (List.mem_range.1 hi)
theorem mU{g:Gp}(hg:g.ok)(ep:Int)(j:Nat):∀n,n<=3->j8 (g.fenceTo ep n) j=if j<n/\g.u.getD j false=true/\j8 g j=ep - 1 then ep else j8 g j
 | 0,_=>by rw[if_neg (by omega)]; rfl
 | n+1,hn=>by
  have ih:=mU hg ep j n (by omega);have ok:=Gp.fenceTo_ok hg ep n (by omega);unfold Gp.fenceTo
  split
  .rename_i hu;rw[lR (by rw[ok.r3]; omega)];by_cases hj:j=n
   .subst hj;rw[if_pos rfl]
    have e:j8 (g.fenceTo ep j) j=j8 g j:=by rw[ih,if_neg (by omega)]
    have e2:((g.fenceTo ep j).r.getD j Rp.zero).floor=j8 g j:=e;unfold Rp.fence;by_cases hf:j8 g j=ep - 1
    .rw[if_pos (by rw[e2]; exact hf),if_pos ⟨by omega,hu,hf⟩]
    .rw[if_neg (by rw[e2]; exact hf),if_neg (λh=>hf h.2.2),e2]
   .rw[if_neg hj,ih];by_cases hc:j<n/\g.u.getD j false=true/\j8 g j=ep - 1
    .rw[if_pos hc,if_pos ⟨by omega,hc.2⟩]
    .rw[if_neg hc,if_neg (λh=>hc ⟨by omega,h.2⟩)]
  .rename_i hu;rw[ih];by_cases hc:j<n/\g.u.getD j false=true/\j8 g j=ep - 1
   .rw[if_pos hc,if_pos ⟨by omega,hc.2⟩]
   .rw[if_neg hc,if_neg (λh=>hc ⟨by
     have:j≠n:=λe=>hu (e▸h.2.1)
     omega,h.2⟩)]
theorem Ds(g:Gp)(ep:Int):(g.fence ep).u=g.u:=by
 unfold Gp.fence; split
 .exact Gp.fenceTo_u g ep 3
 .rfl
theorem kP{g:Gp}{ep:Int}(h:QI g ep)(hm:2<=(g.mem ep).length):QI (g.fence (ep+1)) (ep+1)/\(g.fence (ep+1)).mem (ep+1)=g.mem ep/\(∀j,j<3->j8 (g.fence (ep+1)) j=if g.isM ep j=true then ep+1 else j8 g j):=by
 have e:g.fence (ep+1)=g.fenceTo (ep+1) 3:=by unfold Gp.fence; rw[if_pos (by rw[show ep+1 - 1=ep by omega]; exact hm)]
 have hf:∀j,j<3->j8 (g.fence (ep+1)) j=if g.isM ep j=true then ep+1 else j8 g j:=by
  intro j hj;rw[e,mU h.ok (ep+1) j 3 (by omega)];by_cases hM:g.isM ep j=true
  .have:=jN.1 hM;rw[if_pos hM,if_pos ⟨hj,this.1,by omega⟩]
  .rw[if_neg hM,if_neg (λhc=>hM (jN.2 ⟨hc.2.1,by omega⟩))]
 have hM:∀j,j<3->(g.fence (ep+1)).isM (ep+1) j=g.isM ep j:=by
  intro j hj;rw[Bool.eq_iff_iff,jN,Ds,hf j hj];by_cases hM:g.isM ep j=true
  .rw[if_pos hM];exact⟨λ_=>hM,λ_=>⟨(jN.1 hM).1,rfl⟩⟩
  .rw[if_neg hM];have:=h.le j hj;exact⟨λhc=>by omega,λhc=>absurd hc hM⟩
 refine⟨⟨Gp.fence_ok h.ok _,?_,λi hi=>?_⟩,yM hM,hf⟩
 .obtain⟨i,j,Ln,hj,h1,h2⟩:=ut hm;exact⟨i,j,Ln,hj,by rw[hf i (by omega),if_pos h1],by rw[hf j hj,if_pos h2]⟩
 .rw[hf i hi];have:=h.le i hi
  split<;>omega
structure Fa (S:aw->Prop):Prop where
 z:S aw.zero
 uni:∀x y,S x->S y->x.e=y.e->x.n=y.n->x=y
theorem Fa.total{S:aw->Prop}(f:Fa S){x y:aw}(hx:S x)(hy:S y)(h:aC x y=false):kV x y:=by
 by_cases e:x.e=y.e/\x.n=y.n
 .exact .inl (f.uni x y hx hy e.1 e.2).symm
 .right
  unfold aC at h⊢;simp only[decide_eq_false_iff_not,decide_eq_true_eq]at h⊢;omega
theorem kV.refl(a:aw):kV a a:=.inl rfl
theorem C5{S:aw->Prop}(f:Fa S)(k:Nat)(l:List Rp)(h:∀r∈l,S (r.get k)):kV aw.zero (bK k l)/\∀r∈l,kV (r.get k) (bK k l):=by
 have:∀(l:List Rp) (b:aw),S b->(∀r∈l,S (r.get k))->kV b (l.foldl (λb r=>if aC (r.get k) b then r.get k else b) b)/\∀r∈l,kV (r.get k) (l.foldl (λb r=>if aC (r.get k) b then r.get k else b) b):=by
  intro l
  induction l with
  | nil=>intro b _ _; exact⟨.inl rfl,λr hr=>by cases hr⟩
  | cons r l ih =>
   intro b hb hl;have hr:=hl r (by simp);obtain⟨i1,i2⟩:=ih (if aC (r.get k) b then r.get k else b) (by split<;>assumption) (λq hq=>hl q (by simp[hq]))
   have hbr:kV b (if aC (r.get k) b then r.get k else b)/\kV (r.get k) (if aC (r.get k) b then r.get k else b):=by
    split
    .rename_i hn;exact⟨.inr hn,.inl rfl⟩
    .rename_i hn;exact⟨.inl rfl,f.total hr hb (by simpa using hn)⟩
   refine⟨hbr.1.trans i1,λq hq=>?_⟩
   rcases List.mem_cons.1 hq with rfl | hq
   .exact hbr.2.trans i1
   .exact i2 q hq
 exact this l _ f.z h
def sV (was:aw)(k:Nat)(g:Gp):Prop:=∃i j,i<j/\j<3/\kV was (cQ g k i)/\kV was (cQ g k j)
theorem sV.best{S:aw->Prop}{was:aw}{k:Nat}{g:Gp}(f:Fa S)(hA:cJ S g)(h:sV was k g){ep:Int}(hm:2<=(g.mem ep).length):kV was (bK k (g.frm ep)):=by
 have hb:=(C5 f k (g.frm ep) (λr hr=>by
  obtain⟨i,-,-,rfl⟩:=jO hr
  exact rC hA f.z k i)).2
 obtain⟨i,j,Ln,hj,L2,Lm⟩:=h
 rcases iR hm Ln hj with e | e
 .exact L2.trans (hb _ (jK (by omega) e))
 .exact Lm.trans (hb _ (jK hj e))
theorem sV.mono{was:aw}{k:Nat}{g h:Gp}(t:sV was k g)(hv:∀j,j<3->kV was (cQ g k j)->kV was (cQ h k j)):sV was k h:=by obtain⟨i,j,Ln,hj,h1,h2⟩:=t;exact⟨i,j,Ln,hj,hv i (by omega) h1,hv j hj h2⟩
theorem x8{g:Gp}(hg:g.ok)(ep:Int){i:Nat}(hi:i<3){k:Nat}(hk:k<8)(j:Nat):cQ (g.sync ep i) k j=if g.syncs ep i=true/\j=i then bK k (g.frm ep) else cQ g k j:=by
 unfold Gp.sync
 split
 .rename_i hs;rw[fU (by rw[hg.r3]; exact hi)];by_cases hj:j=i
  .rw[if_pos hj,if_pos ⟨hs,hj⟩];show(bV (g.frm ep)).getD k aw.zero=_;exact iQ _ k hk
  .rw[if_neg hj,if_neg (λe=>hj e.2)]
 .rename_i hs;rw[if_neg (λe=>hs e.1)]
theorem yk{g:Gp}{ep:Int}{i:Nat}(h:g.syncs ep i=true):g.u.getD i false=true/\2<=(g.mem ep).length/\j8 g i<ep:=by unfold Gp.syncs at h;simp only[Bool.and_eq_true,decide_eq_true_eq]at h;exact⟨h.1.1,h.1.2,h.2⟩
theorem sV.sync{S:aw->Prop}{was:aw}{k:Nat}{g:Gp}(f:Fa S)(hA:cJ S g)(hg:g.ok)(h:sV was k g)(ep:Int){i:Nat}(hi:i<3)(hk:k<8):sV was k (g.sync ep i) :=
 h.mono λj _ hv=>by
  rw[x8 hg ep hi hk]
  split
  .rename_i hs;exact h.best f hA (yk hs.1).2.1
  .exact hv
theorem l8{g:Gp}(hg:g.ok){i k k':Nat}(hi:i<3)(hk':k'<8)(c:aw)(j:Nat):cQ (g.deliver i k' c) k j=if g.delivers i c=true/\aC c (cQ g k' i)=true/\j=i/\k=k' then c else cQ g k j:=by
 unfold Gp.deliver
 split
 .rename_i hu;rw[fU (by rw[hg.r3]; exact hi)];by_cases hj:j=i
  .subst hj;rw[if_pos rfl];unfold Rp.admitC;by_cases hc:c.e=(g.r.getD j Rp.zero).floor/\aC c ((g.r.getD j Rp.zero).get k')=true
   .have hd:g.delivers j c=true:=by unfold Gp.delivers; rw[hu,decide_eq_true hc.1]; rfl
    rw[if_pos hc];by_cases J7:k=k'
    .subst J7;rw[if_pos ⟨hd,hc.2,rfl,rfl⟩,Rp.get_set c (by rw[Gp.getR hg hi]; exact hk')]
    .rw[if_neg (λe=>J7 e.2.2.2)];show(List.set _ k' c).getD k aw.zero=_;rw[List.getD_eq_getElem?_getD,List.getElem?_set_ne (Ne.symm J7)];unfold cQ Rp.get;simp only[List.getD_eq_getElem?_getD]
   .rw[if_neg hc,if_neg]
    .rfl
    .rintro⟨h1,h2,-⟩;unfold Gp.delivers at h1;simp only[Bool.and_eq_true,decide_eq_true_eq]at h1;exact hc ⟨h1.2,h2⟩
  .rw[if_neg hj,if_neg (λe=>hj e.2.2.1)]
 .rename_i hu;rw[if_neg];rintro⟨h1,-⟩;unfold Gp.delivers at h1;simp only[Bool.and_eq_true,decide_eq_true_eq]at h1;exact hu h1.1
theorem sV.deliver{was:aw}{k:Nat}{g:Gp}(hg:g.ok)(h:sV was k g){i k':Nat}(hi:i<3)(hk':k'<8)(c:aw):sV was k (g.deliver i k' c) :=
 h.mono λj _ hv=>by
  rw[l8 hg hi hk']
  split
  .rename_i hc;rw[hc.2.2.1,hc.2.2.2]at hv;exact hv.trans (.inr hc.2.1)
  .exact hv
theorem sV.fence{was:aw}{k:Nat}{g:Gp}(hg:g.ok)(h:sV was k g)(ep:Int):sV was k (g.fence ep) :=
 h.mono λj _ hv=>by rw[nY hg]; exact hv
theorem ya{g:Gp}(hg:g.ok){ep:Int}{k:Nat}(hk:k<8)(hm:2<=(g.mem ep).length){j:Nat}(hj:j<3):cQ (g.read ep k) k j=if g.isM ep j=true then bK k (g.frm ep) else cQ g k j:=by
 have hr:g.read ep k=g.putAll k (g.readC ep k) (g.mem ep):=if_pos hm;have hc:g.readC ep k=bK k (g.frm ep):=if_pos hm;rw[hr,gJ hk _ _ _ _ hg lE,hc];by_cases h:g.isM ep j=true
 .rw[if_pos h,if_pos (vY hj h)]
 .rw[if_neg h,if_neg];intro hin;obtain⟨i,e,_,hM⟩:=Gp.mem_lt hin
  have:j=i:=by omega
  exact h (this▸hM)
theorem lu{k k':Nat}(J7:k≠k')(c:aw)(j:Nat):∀(l:List Int) (g:Gp),g.ok->(∀x∈l,∃i:Nat,x=i/\i<3)->cQ (g.putAll k' c l) k j=cQ g k j
 | [],g,_,_=>rfl
 | x :: l,g,hg,hl=>by
  obtain⟨i,rfl,hi⟩:=hl x (by simp);have ih:=lu J7 c j l (g.put1 k' c i) (Gp.put1_ok hg k' c hi) (λy hy=>hl y (by simp[hy]));have e:g.putAll k' c ((i:Int) :: l)=(g.put1 k' c i).putAll k' c l:=rfl;rw[e,ih];unfold Gp.put1;rw[show(i:Int).toNat=i from rfl,fU (by rw[hg.r3]; exact hi)]
  split
  .rename_i hj; subst hj;show(List.set _ k' c).getD k aw.zero=_;rw[List.getD_eq_getElem?_getD,List.getElem?_set_ne (Ne.symm J7)];unfold cQ Rp.get;simp only[List.getD_eq_getElem?_getD]
  .rfl
theorem ns{g:Gp}(hg:g.ok)(ep:Int){k k':Nat}(J7:k≠k')(j:Nat):cQ (g.read ep k') k j=cQ g k j:=by
 unfold Gp.read
 split
 .exact lu J7 _ j _ g hg lE
 .rfl
theorem sV.read{S:aw->Prop}{was:aw}{k:Nat}{g:Gp}(f:Fa S)(hA:cJ S g)(hg:g.ok)(h:sV was k g)(ep:Int)(k':Nat)(hk:k<8):sV was k (g.read ep k'):=by
 by_cases hm:2<=(g.mem ep).length
 .by_cases J7:k=k'
  .subst J7
   exact h.mono λj hj hv=>by
    rw[ya hg hk hm hj]
    split
    .exact h.best f hA hm
    .exact hv
  .exact h.mono λj _ hv=>by rw[ns hg ep J7]; exact hv
 .rw[show g.read ep k'=g from if_neg hm]; exact h
theorem cJ.read{S:aw->Prop}{g:Gp}(h:cJ S g)(hz:S aw.zero)(ep:Int)(k:Nat):cJ S (g.read ep k):=by
 by_cases hm:2<=(g.mem ep).length
 .rw[show g.read ep k=g.putAll k (g.readC ep k) (g.mem ep) from if_pos hm];refine cJ.putAll hz k ?_ _ _ h;rw[show g.readC ep k=bK k (g.frm ep) from if_pos hm];refine sO hz k _ (λr hr=>?_);obtain⟨i,-,-,rfl⟩:=jO hr;exact rC h hz k i
 .rw[show g.read ep k=g from if_neg hm]; exact h
