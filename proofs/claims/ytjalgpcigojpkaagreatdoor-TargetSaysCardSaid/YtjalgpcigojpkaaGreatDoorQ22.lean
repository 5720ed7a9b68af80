import Derived.Test.YtjalgpcigojpkaaGreatDoorQ08
import Derived.Deep.CutBlock
set_option maxRecDepth 99999
set_option maxHeartbeats 99999999
namespace Go.Proofs.YtjalgpcigojpkaaGreatDoor
section
open Go.RowKit Go.Sort
set_option linter.unusedVariables false in
theorem rO(s:St)(a:Option Addr)(cap:Nat)(c:bG)(w:World)(hr:bj w s a)(hl:sX s.regs 40)(hw:0<=c.who/\c.who<=1000)(h1:1<=c.op)(hn:0<=c.new)(hg:0<=s.gen/\s.gen<=1000000000) : Calls Tryz.prog 53 #[dh s a cap,eX c] w (nN a s.regs.length (uX s c) w):=by
 have HR:=Hx hr;have HL:=Hx hl;have HP:=Hx hr.rep;clear hr hl;go_enter Tryz.func53,Tryz.ntmps53
 go_upto_region 1 with fail;obtain⟨w1,pX⟩:=Nn (((w.alloc (.cells #[.int .i64 s.gen,.slice a s.regs.length cap,.int .i64 s.typ,.int .i64 s.holder,.bool s.stays] 34)).alloc (.cells #[.int .i64 c.op,.int .i64 c.who,.int .i64 c.key,.int .i64 c.new,.int .i64 c.typ,.int .i64 c.at',.bool c.stays,.string c.data,.string c.want] 39)).alloc (.cells #[.int .i64 0,.slice none 0 0,.int .i64 0,.int .i64 0,.bool false] 34));rw[<-pX];have B1:=Hs (OB w s a cap c w1) (pX▸⟨dt w _ _ _,(aO w _ _ _).1,(aO w _ _ _).2.1,(aO w _ _ _).2.2⟩);clear pX;obtain⟨d0,d1,d2,d3,d4⟩:=B1.out.s5;obtain⟨k0,k1,k2,k3,k4,k6⟩:=B1.out.c7;go_wp2_with fail;refine(ji s a cap c.who _ (HR.out.below B1.out.below)).mono ?_;rintro e w2 ⟨rfl,b2⟩;obtain⟨Ky,hKy⟩:=Nm (keyOf s.regs c.who);rw[hKy];have HKY:=Hx hKy;have B2:=Hx (B1.out.over b2);clear b2 hKy B1;clear d0 d1 d2 d3 d4 k0 k1 k2 k3 k4 k6;obtain⟨d0,d1,d2,d3,d4⟩:=B2.out.s5;obtain⟨k0,k1,k2,k3,k4,k6⟩:=B2.out.c7;go_wp2_with fail;refine(oN s a cap c.who _ (HR.out.below B2.out.below)).mono ?_;rintro e w3 ⟨rfl,b3⟩;obtain⟨Hd,hHd⟩:=Nm (holds s c.who);rw[hHd];have HHD:=Hx hHd;have B3:=Hx (B2.out.over b3);clear b3 hHd B2;clear d0 d1 d2 d3 d4 k0 k1 k2 k3 k4 k6;obtain⟨d0,d1,d2,d3,d4⟩:=B3.out.s5;obtain⟨k0,k1,k2,k3,k4,k6⟩:=B3.out.c7;by_cases h6:6<c.op
 .have P1:=Hs (uX s c=(St.zero,[],2)) (by unfold uX; rw[if_pos h6]);obtain⟨⟨z0,z1,z2,z3,z4⟩,y0,y1,y2,y3,y4⟩:=B3.out.z5;go_wp2;refine bodyPost_ret (v:=.tuple #[.agg #[.int .i64 0,.slice none 0 0,.int .i64 0,.int .i64 0,.bool false],.slice none 0 0,.int .i64 2]) (cE Tryz.results53 _ _ (w.heap.size+1+1) 34 #[.int .i64 0,.slice none 0 0,.int .i64 0,.int .i64 0,.bool false] _ (.slice none 0 0) (.int .i64 2) rfl rfl rfl (dD B3.out.hZ St.zero none 0) cK.1 rfl cK.2) rfl ?_;exact iO P1.out B3.out.below (bm _ _ St.zero none 0)
 have M7:=Hx (show uX s c=(if (c.op=1/\Ky≠c.key)\/(2<c.op/\(c.key=0\/Ky≠c.key)) then(St.zero,[],4)
  else match (bN s c).1 with
   | none=>(St.zero,[],(bN s c).2)
   | some x=>if c.op≠3/\c.op≠4 then(x.1.next,x.2,0) else(x.1,x.2,0)) from by unfold uX; rw[if_neg h6,HKY.out]; rfl)
 obtain⟨D,hD⟩:∃D,decide ((c.op=1/\Ky≠c.key)\/(2<c.op/\(c.key=0\/Ky≠c.key)))=D:=⟨_,rfl⟩
 have HD:=Hx hD;clear hD;go_upto_region 5 with fail;go_cut [52] (λv wx=>v=.bool D/\wx=w3)
 case first=>as_aux_lemma =>
  by_cases h1:c.op=1
  .have h1b:(c.op == 1)=true:=by simp[h1]
   have h2b:decide (2<c.op)=false:=by simp[h1]
   have PD:=Hs (D=(Ky != c.key)) (by rw[<-HD.out,Bool.eq_iff_iff]; simp[h1]);clear h1 h6;cases hk:(Ky != c.key)
   .rw[hk]at PD;go_wp2;go_meet;exact⟨by rw[PD.out],rfl⟩
   .rw[hk]at PD;go_wp2;go_meet;exact⟨by rw[PD.out],rfl⟩
  .have h1b:(c.op == 1)=false:=by simp[h1]
   by_cases h2:2<c.op
   .have PD:=Hs (D=((c.key == 0) || (Ky != c.key))) (by rw[<-HD.out,Bool.eq_iff_iff]; simp[h1,h2]);clear h1 h6;cases hz:(c.key == 0)
    .cases hk:(Ky != c.key)
     .rw[hk,hz]at PD;go_wp2;go_meet;exact⟨by rw[PD.out]; rfl,rfl⟩
     .rw[hk,hz]at PD;go_wp2;go_meet;exact⟨by rw[PD.out]; rfl,rfl⟩
    .rw[hz]at PD;go_wp2;go_meet;exact⟨by rw[PD.out]; rfl,rfl⟩
   .have PD:=Hs (D=false) (by rw[<-HD.out]; simp[h1,h2]);clear h1 h6;go_wp2;go_meet;exact⟨by rw[PD.out],rfl⟩
 case rest =>
 obtain⟨rfl,rfl⟩:=hcut;cases D
 rotate_left 1
 .as_aux_lemma =>
   have I0:=Hx (M7.out.trans (if_pos (by simpa using HD.out)));obtain⟨⟨z0,z1,z2,z3,z4⟩,y0,y1,y2,y3,y4⟩:=B3.out.z5;go_wp2;refine bodyPost_ret (v:=.tuple #[.agg #[.int .i64 0,.slice none 0 0,.int .i64 0,.int .i64 0,.bool false],.slice none 0 0,.int .i64 4]) (cE Tryz.results53 _ _ (w.heap.size+1+1) 34 #[.int .i64 0,.slice none 0 0,.int .i64 0,.int .i64 0,.bool false] _ (.slice none 0 0) (.int .i64 4) rfl rfl rfl (dD B3.out.hZ St.zero none 0) cK.1 rfl cK.2) rfl ?_;exact iO I0.out B3.out.below (bm _ _ St.zero none 0)
 have I0:=Hx (M7.out.trans (if_neg (by simpa using HD.out)));clear M7 HD;go_upto_region 8 with fail;obtain⟨w4,Iq⟩:=Nn (wc.alloc (.cells #[.int .i64 s.gen,.slice a s.regs.length cap,.int .i64 s.typ,.int .i64 s.holder,.bool s.stays] 34));rw[<-Iq];have B4:=Hs (OB w s a cap c w4) (Iq▸B3.out.over (ay wc _));have hNT:w.heap.size+1+1<wc.heap.size:=B3.out.lt;have T4:=Hs (TR w.heap.size a s.regs w4 wc.heap.size s a cap w4) (⟨by omega,by rw[Iq]; simp,HP.out.below B4.out.below (Nat.le_refl _),.inl ⟨rfl,Nat.le_refl _⟩,Iq▸heap_alloc_new _ _,HR.out.below B4.out.below,ac.refl _ _⟩);clear Iq B3;clear d0 d1 d2 d3 d4 k0 k1 k2 k3 k4 k6;obtain⟨T,hTT⟩:=Nm wc.heap.size;rw[hTT]at T4 hNT;rw[hTT];clear hTT;obtain⟨d0,d1,d2,d3,d4⟩:=B4.out.s5;obtain⟨k0,k1,k2,k3,k4,k6⟩:=B4.out.c7;obtain⟨⟨t0,t1,t2,t3,t4⟩,p0,p1,p2,p3,p4⟩:=T4.out.t5;have hT4:T<w4.heap.size:=T4.out.tl;have h44:w.heap.size+1+1<w4.heap.size:=B4.out.lt;have L40:s.regs.length<=40:=HL.out.len
 go_upto_block 0 with fail
 go_cut [10] (λv wx=>∃r lt a3 c3,(bN s c).1=some (r,lt)/\TR w.heap.size a s.regs w4 T r a3 c3 wx/\bT w4.heap.size wx v lt)
 case first =>
  obtain⟨B12,KC⟩:=Nm ((c.op == 1) || (c.op == 2));obtain⟨E1,hE1⟩:=Nm (c.op == 1);go_upto_if 57 with fail;go_cut [57] (λv wx=>v=.bool B12/\wx=w4)
  case first=>as_aux_lemma =>
   cases E1
   .have e2:(c.op == 2)=B12:=by rw[<-KC,hE1]; rfl
    clear KC;go_wp2;go_meet;exact⟨rfl,rfl⟩
   .obtain rfl:true=B12:=by rw[<-KC,hE1]; rfl
    go_wp2;go_meet;exact⟨rfl,rfl⟩
  case rest =>
  obtain⟨rfl,e0⟩:=hcut;obtain rfl:=e0.symm;clear hE1 E1
  have Jt:(c.op=1\/c.op=2)\/c.op=3\/c.op=4\/c.op=5\/c.op=6:=by omega
  rcases Jt with h | h | h | h | h
  .as_aux_lemma =>
    obtain rfl:true=B12:=by rw[<-KC]; rcases h with h | h<;>simp[h]
    have JB:=Hs ((bN s c).1=some (cf s c)) (by unfold bN; rw[if_pos (by omega)]);obtain⟨LL,hLL⟩:=Nm (aZ s.regs c.who c.new)
    have HRG:=Hx (show cf s c=(if c.new=0/\Hd=true then
      if s.typ<7 then(⟨s.gen,LL,0,0,c.stays⟩,if 4<s.typ then az (am c.who LL) 2 else [])
      else if LL.length=0 then(⟨s.gen,LL,0,0,c.stays⟩,[]) else(⟨s.gen,LL,s.typ,s.holder,c.stays⟩,[])
     else(⟨s.gen,LL,s.typ,s.holder,c.stays⟩,[])) from by
     unfold cf; rw[<-hLL,<-HHD.out]; rfl)
    have WC:=Hx (xh s.gen s.regs s.typ s.holder s.stays a cap c.who c.new w4 (HR.out.below B4.out.below) (by omega) hn HL.out.sort LL hLL);have LLL:=Hs (LL.length<=41) (by rw[<-hLL]; have:=td s.regs c.who c.new; omega);clear h hLL h6;go_wp2_with fail;refine WC.out.mono ?_;rintro e w5 ⟨a5,c5,rfl,hs5,b5,lo5⟩;have T5:=Hx (T4.out.over b5);have B5:=Hx (B4.out.over b5);have S5:=Hx hs5;have LO:=Hs (∀b o,a5=some ⟨b,o,none⟩->w4.heap.size<=b) lo5;clear WC b5 hs5 lo5 T4;clear d0 d1 d2 d3 d4 k0 k1 k2 k3 k4 k6;clear t0 t1 t2 t3 t4 p0 p1 p2 p3 p4;obtain⟨d0,d1,d2,d3,d4⟩:=B5.out.s5;obtain⟨k0,k1,k2,k3,k4,k6⟩:=B5.out.c7;obtain⟨⟨t0,t1,t2,t3,t4⟩,p0,p1,p2,p3,p4⟩:=T5.out.t5;go_upto_region 14 with fail;obtain⟨w6,IP⟩:=Nn ((kz w5 T ⟨s.gen,LL,s.typ,s.holder,s.stays⟩ a5 c5).setCell ⟨T,4,none⟩ (.bool c.stays))
    have T6:=Hs (TR w.heap.size a s.regs w4 T ⟨s.gen,LL,s.typ,s.holder,c.stays⟩ a5 c5 w6) (by
     rw[IP]
     exact T5.out.next (af (bm _ _ _ _ _) _ _) (block_setCell (dD T5.out.hT _ _ _) _) (db S5.out _ rfl) (.inr LO.out))
    have B6:=Hs (OB w s a cap c w6) (T6.out.ob B4.out hNT);unfold kz at IP;rw[<-IP];clear IP T5 S5;clear d0 d1 d2 d3 d4 k0 k1 k2 k3 k4 k6;clear t0 t1 t2 t3 t4 p0 p1 p2 p3 p4;clear B5;obtain⟨d0,d1,d2,d3,d4⟩:=B6.out.s5;obtain⟨k0,k1,k2,k3,k4,k6⟩:=B6.out.c7;obtain⟨⟨t0,t1,t2,t3,t4⟩,p0,p1,p2,p3,p4⟩:=T6.out.t5;dsimp only at t0 t1 t2 t3 t4;by_cases hz:c.new=0
    rotate_left 1
    .have e1:(c.new == 0)=false:=by simp[hz]
     have E:=Hs (cf s c=(⟨s.gen,LL,s.typ,s.holder,c.stays⟩,[])) (by rw[HRG.out,if_neg (λh=>hz h.1)]);clear hz;go_wp2;go_meet;exact⟨_,_,_,_,by rw[JB.out,E.out],T6.out,bI _ _⟩
    have e1:(c.new == 0)=true:=by simp[hz]
    cases Hd
    .have E:=Hs (cf s c=(⟨s.gen,LL,s.typ,s.holder,c.stays⟩,[])) (by rw[HRG.out,if_neg (λh=>by cases h.2)]);clear hz;go_wp2;go_meet;exact⟨_,_,_,_,by rw[JB.out,E.out],T6.out,bI _ _⟩
    have E0:=Hx (HRG.out.trans (if_pos ⟨hz,rfl⟩));clear HRG hz;by_cases h7:s.typ<7
    .have E1:=Hx (E0.out.trans (if_pos h7));clear E0;go_wp2_with fail;refine(jP s.gen LL s.typ s.holder c.stays a5 c5 _).mono ?_;rintro e w7 ⟨rfl,b7⟩;have T7:=Hx (T6.out.over b7);have B7:=Hx (B6.out.over b7);have S6:=Hx T6.out.str;clear b7 T6;clear d0 d1 d2 d3 d4 k0 k1 k2 k3 k4 k6;clear t0 t1 t2 t3 t4 p0 p1 p2 p3 p4;clear B6;obtain⟨d0,d1,d2,d3,d4⟩:=B7.out.s5;obtain⟨k0,k1,k2,k3,k4,k6⟩:=B7.out.c7;obtain⟨⟨t0,t1,t2,t3,t4⟩,p0,p1,p2,p3,p4⟩:=T7.out.t5;go_upto_region 17 with fail;obtain⟨w8,IU⟩:=Nn (kz w7 T ⟨s.gen,LL,0,0,c.stays⟩ a5 c5)
     have T8:=Hs (TR w.heap.size a s.regs w4 T ⟨s.gen,LL,0,0,c.stays⟩ a5 c5 w8) (by
      rw[IU]
      exact T7.out.put _ _ _ (db T7.out.str _ rfl) (.inr LO.out))
     have B8:=Hs (OB w s a cap c w8) (T8.out.ob B4.out hNT);unfold kz at IU;rw[<-IU];clear IU T7;clear d0 d1 d2 d3 d4 k0 k1 k2 k3 k4 k6;clear t0 t1 t2 t3 t4 p0 p1 p2 p3 p4;clear B7;obtain⟨d0,d1,d2,d3,d4⟩:=B8.out.s5;obtain⟨k0,k1,k2,k3,k4,k6⟩:=B8.out.c7;obtain⟨⟨t0,t1,t2,t3,t4⟩,p0,p1,p2,p3,p4⟩:=T8.out.t5;dsimp only at t0 t1 t2 t3 t4;by_cases h4:4<s.typ
     .have E2:=Hs (cf s c=(⟨s.gen,LL,0,0,c.stays⟩,az (am c.who LL) 2)) (by rw[E1.out,if_pos h4]);clear E1;obtain⟨O,hO⟩:=Nm (am c.who LL)
      have MS:O.length<=100:=by have:=dw c.who LL LL.length; rw[List.take_length,hO]at this; have:=LLL.out; omega
      rw[hO]at E2;have OC:=Hx (mi s.gen LL 0 0 c.stays a5 c5 c.who w8 T8.out.str (by have:=LLL.out; omega) O hO);clear hO;go_wp2_with fail;refine OC.out.mono ?_;rintro e w9 ⟨a9,c9,rfl,hi9,b9⟩;have T9:=Hx (T8.out.over b9);clear OC T8;go_wp2_with fail;refine(ig O a9 c9 2 _ MS hi9).mono ?_;rintro e w10 ⟨v10,rfl,Jr,b10⟩;have T10:=Hx (T9.out.over b10);have O10:=Hx (Jr.mono (show w4.heap.size<=w9.heap.size from T9.out.keeps.size));clear hi9 b9 Jr b10 T9;go_wp2;go_meet;exact⟨_,_,_,_,by rw[JB.out,E2.out],T10.out,O10.out⟩
     .have E2:=Hs (cf s c=(⟨s.gen,LL,0,0,c.stays⟩,[])) (by rw[E1.out,if_neg h4]);go_wp2;go_meet;exact⟨_,_,_,_,by rw[JB.out,E2.out],T8.out,bI _ _⟩
    have E1:=Hx (E0.out.trans (if_neg h7));clear E0;by_cases hl0:LL.length=0
    .have E2:=Hs (cf s c=(⟨s.gen,LL,0,0,c.stays⟩,[])) (by rw[E1.out,if_pos hl0])
     have q0:((LL.length:Int) == 0)=true:=by simp[hl0]
     clear E1 hl0;go_wp2_with fail;refine(jP s.gen LL s.typ s.holder c.stays a5 c5 _).mono ?_;rintro e w7 ⟨rfl,b7⟩;have T7:=Hx (T6.out.over b7);clear b7 T6;clear d0 d1 d2 d3 d4 k0 k1 k2 k3 k4 k6;clear t0 t1 t2 t3 t4 p0 p1 p2 p3 p4;clear B6;obtain⟨⟨t0,t1,t2,t3,t4⟩,p0,p1,p2,p3,p4⟩:=T7.out.t5;have T8:=Hx (T7.out.put ⟨s.gen,LL,0,0,c.stays⟩ a5 c5 (db T7.out.str _ rfl) (.inr LO.out));unfold kz at T8;go_wp2;go_meet;exact⟨_,_,_,_,by rw[JB.out,E2.out],T8.out,bI _ _⟩
    .have E2:=Hs (cf s c=(⟨s.gen,LL,s.typ,s.holder,c.stays⟩,[])) (by rw[E1.out,if_neg hl0])
     have q0:((LL.length:Int) == 0)=false:=by rw[beq_eq_false_iff_ne]; omega
     clear E1 hl0;go_wp2;go_meet;exact⟨_,_,_,_,by rw[JB.out,E2.out],T6.out,bI _ _⟩
  .as_aux_lemma =>
    obtain rfl:false=B12:=by rw[<-KC]; simp[h]
    have Lu:(c.op == 3)=true:=by simp[h]
    have JB:=Hs (bN s c=(if s.typ=0 then(some (s.rtake c.typ c.who,[]),0) else if Hd=false\/s.typ≠c.typ then(none,4) else(some (s,[]),0))) (by unfold bN; rw[if_neg (by omega),if_pos h,HHD.out])
    have JF:=Hs (uX s c=match (bN s c).1 with | none=>(St.zero,[],(bN s c).2) | some x=>if c.op≠3/\c.op≠4 then(x.1.next,x.2,0) else(x.1,x.2,0)) I0.out;clear h h6 I0;by_cases h0:s.typ=0
    .have e0:(s.typ == 0)=true:=by simp[h0]
     have E:=Hx (JB.out.trans (if_pos h0));obtain⟨hd,hhd⟩:=Nm (if 7<=c.typ then 0 else c.who);have TK:=Hx (λw=>qu s.gen s.regs s.typ s.holder s.stays a cap c.typ c.who w);rw[hhd]at TK;have E2:=Hs ((bN s c).1=some (⟨s.gen,s.regs,c.typ,hd,s.stays⟩,[])) (by rw[E.out,<-hhd]; rfl);clear h0 JB hhd E;go_wp2_with fail;refine(TK.out _).mono ?_;rintro e w7 ⟨rfl,b7⟩;have T7:=Hx (T4.out.over b7);clear b7 T4;clear d0 d1 d2 d3 d4 k0 k1 k2 k3 k4 k6;clear t0 t1 t2 t3 t4 p0 p1 p2 p3 p4;obtain⟨⟨t0,t1,t2,t3,t4⟩,p0,p1,p2,p3,p4⟩:=T7.out.t5;have T8:=Hx (T7.out.put ⟨s.gen,s.regs,c.typ,hd,s.stays⟩ a cap (db T7.out.str _ rfl) (.inl ⟨rfl,Nat.le_refl _⟩));unfold kz at T8;go_wp2;go_meet;exact⟨_,_,_,_,E2.out,T8.out,bI _ _⟩
    have e0:(s.typ == 0)=false:=by simp[h0]
    have E:=Hx (JB.out.trans (if_neg h0));clear h0 JB;cases Hd
    .have E2:=Hs (uX s c=(St.zero,[],4)) (by rw[JF.out,show bN s c=(none,4) from by rw[E.out]; exact if_pos (.inl rfl)]);obtain⟨⟨z0,z1,z2,z3,z4⟩,y0,y1,y2,y3,y4⟩:=B4.out.z5;go_wp2;refine bodyPost_ret (v:=.tuple #[.agg #[.int .i64 0,.slice none 0 0,.int .i64 0,.int .i64 0,.bool false],.slice none 0 0,.int .i64 4]) (cE Tryz.results53 _ _ (w.heap.size+1+1) 34 #[.int .i64 0,.slice none 0 0,.int .i64 0,.int .i64 0,.bool false] _ (.slice none 0 0) (.int .i64 4) rfl rfl rfl (dD B4.out.hZ St.zero none 0) cK.1 rfl cK.2) rfl ?_;exact iO E2.out B4.out.below (bm _ _ St.zero none 0)
    by_cases ht:s.typ=c.typ
    .have e1:(s.typ != c.typ)=false:=by simp[ht]
     have E2:=Hs ((bN s c).1=some (s,[])) (by rw[E.out,if_neg (by rintro (h | h); cases h; exact h ht)]);clear ht;go_wp2;go_meet;exact⟨_,_,_,_,E2.out,T4.out,bI _ _⟩
    .have e1:(s.typ != c.typ)=true:=by simp[ht]
     have E2:=Hs (uX s c=(St.zero,[],4)) (by rw[JF.out,show bN s c=(none,4) from by rw[E.out]; exact if_pos (.inr ht)]);clear ht;obtain⟨⟨z0,z1,z2,z3,z4⟩,y0,y1,y2,y3,y4⟩:=B4.out.z5;go_wp2;refine bodyPost_ret (v:=.tuple #[.agg #[.int .i64 0,.slice none 0 0,.int .i64 0,.int .i64 0,.bool false],.slice none 0 0,.int .i64 4]) (cE Tryz.results53 _ _ (w.heap.size+1+1) 34 #[.int .i64 0,.slice none 0 0,.int .i64 0,.int .i64 0,.bool false] _ (.slice none 0 0) (.int .i64 4) rfl rfl rfl (dD B4.out.hZ St.zero none 0) cK.1 rfl cK.2) rfl ?_;exact iO E2.out B4.out.below (bm _ _ St.zero none 0)
  .as_aux_lemma =>
    obtain rfl:false=B12:=by rw[<-KC]; simp[h]
    have Lu:(c.op == 3)=false:=by simp[h]
    have NI:(c.op == 4)=true:=by simp[h]
    have JB:=Hs (bN s c=(if Hd=true/\s.typ≠c.typ then(none,5) else if Hd=true then(some (s.free,if 4<s.typ then az (am c.who s.regs) 2 else []),0) else(some (s,[]),0))) (by unfold bN; rw[if_neg (by omega),if_neg (by omega),if_pos h,HHD.out])
    have JF:=Hs (uX s c=match (bN s c).1 with | none=>(St.zero,[],(bN s c).2) | some x=>if c.op≠3/\c.op≠4 then(x.1.next,x.2,0) else(x.1,x.2,0)) I0.out;clear h h6 I0;cases Hd
    .have E2:=Hs ((bN s c).1=some (s,[])) (by rw[JB.out,if_neg (λh=>by cases h.1),if_neg (λh=>by cases h)]);go_wp2;go_meet;exact⟨_,_,_,_,E2.out,T4.out,bI _ _⟩
    by_cases ht:s.typ=c.typ
    rotate_left 1
    .have e1:(s.typ != c.typ)=true:=by simp[ht]
     have E2:=Hs (uX s c=(St.zero,[],5)) (by rw[JF.out,show bN s c=(none,5) from by rw[JB.out]; exact if_pos ⟨rfl,ht⟩]);clear ht;obtain⟨⟨z0,z1,z2,z3,z4⟩,y0,y1,y2,y3,y4⟩:=B4.out.z5;go_wp2;refine bodyPost_ret (v:=.tuple #[.agg #[.int .i64 0,.slice none 0 0,.int .i64 0,.int .i64 0,.bool false],.slice none 0 0,.int .i64 5]) (cE Tryz.results53 _ _ (w.heap.size+1+1) 34 #[.int .i64 0,.slice none 0 0,.int .i64 0,.int .i64 0,.bool false] _ (.slice none 0 0) (.int .i64 5) rfl rfl rfl (dD B4.out.hZ St.zero none 0) cK.1 rfl cK.2) rfl ?_;exact iO E2.out B4.out.below (bm _ _ St.zero none 0)
    have e1:(s.typ != c.typ)=false:=by simp[ht]
    have E:=Hs ((bN s c).1=some (⟨s.gen,s.regs,0,0,s.stays⟩,if 4<s.typ then az (am c.who s.regs) 2 else [])) (by rw[JB.out,if_neg (λh=>h.2 ht),if_pos rfl]; rfl);clear ht JB JF;go_wp2_with fail;refine(jP s.gen s.regs s.typ s.holder s.stays a cap _).mono ?_;rintro e w7 ⟨rfl,b7⟩;have T7:=Hx (T4.out.over b7);have B7:=Hx (B4.out.over b7);clear b7 T4;clear d0 d1 d2 d3 d4 k0 k1 k2 k3 k4 k6;clear t0 t1 t2 t3 t4 p0 p1 p2 p3 p4;obtain⟨d0,d1,d2,d3,d4⟩:=B7.out.s5;obtain⟨k0,k1,k2,k3,k4,k6⟩:=B7.out.c7;obtain⟨⟨t0,t1,t2,t3,t4⟩,p0,p1,p2,p3,p4⟩:=T7.out.t5;go_upto_region 31 with fail;obtain⟨w8,IU⟩:=Nn (kz w7 T ⟨s.gen,s.regs,0,0,s.stays⟩ a cap)
    have T8:=Hs (TR w.heap.size a s.regs w4 T ⟨s.gen,s.regs,0,0,s.stays⟩ a cap w8) (by
     rw[IU]
     exact T7.out.put _ _ _ (db T7.out.str _ rfl) (.inl ⟨rfl,Nat.le_refl _⟩))
    have B8:=Hs (OB w s a cap c w8) (T8.out.ob B4.out hNT);unfold kz at IU;rw[<-IU];clear IU T7;clear d0 d1 d2 d3 d4 k0 k1 k2 k3 k4 k6;clear t0 t1 t2 t3 t4 p0 p1 p2 p3 p4;clear B7;obtain⟨d0,d1,d2,d3,d4⟩:=B8.out.s5;obtain⟨k0,k1,k2,k3,k4,k6⟩:=B8.out.c7;obtain⟨⟨t0,t1,t2,t3,t4⟩,p0,p1,p2,p3,p4⟩:=T8.out.t5;by_cases h4:4<s.typ
    .have E2:=Hs ((bN s c).1=some (⟨s.gen,s.regs,0,0,s.stays⟩,az (am c.who s.regs) 2)) (by rw[E.out,if_pos h4]);clear E;obtain⟨O,hO⟩:=Nm (am c.who s.regs)
     have MS:O.length<=100:=by have:=dw c.who s.regs s.regs.length; rw[List.take_length,hO]at this; omega
     rw[hO]at E2;have OC:=Hx (mi s.gen s.regs s.typ s.holder s.stays a cap c.who w8 (HR.out.below B8.out.below) (by omega) O hO);clear hO;go_wp2_with fail;refine OC.out.mono ?_;rintro e w9 ⟨a9,c9,rfl,hi9,b9⟩;have T9:=Hx (T8.out.over b9);clear OC T8;go_wp2_with fail;refine(ig O a9 c9 2 _ MS hi9).mono ?_;rintro e w10 ⟨v10,rfl,Jr,b10⟩;have T10:=Hx (T9.out.over b10);have O10:=Hx (Jr.mono (show w4.heap.size<=w9.heap.size from T9.out.keeps.size));clear hi9 b9 Jr b10 T9;go_wp2;go_meet;exact⟨_,_,_,_,E2.out,T10.out,O10.out⟩
    .have E2:=Hs ((bN s c).1=some (⟨s.gen,s.regs,0,0,s.stays⟩,[])) (by rw[E.out,if_neg h4]);go_wp2;go_meet;exact⟨_,_,_,_,E2.out,T8.out,bI _ _⟩
  .as_aux_lemma =>
    obtain rfl:false=B12:=by rw[<-KC]; simp[h]
    have Lu:(c.op == 3)=false:=by simp[h]
    have NI:(c.op == 4)=false:=by simp[h]
    have hop5:(c.op == 5)=true:=by simp[h]
    have E:=Hs ((bN s c).1=some (⟨s.gen,[],0,0,s.stays⟩,az (am c.who s.regs) 3)) (by unfold bN; rw[if_neg (by omega),if_neg (by omega),if_neg (by omega),if_pos h]; rfl)
    clear h h6 I0;obtain⟨O,hO⟩:=Nm (am c.who s.regs)
    have MS:O.length<=100:=by have:=dw c.who s.regs s.regs.length; rw[List.take_length,hO]at this; omega
    rw[hO]at E;have OC:=Hx (mi s.gen s.regs s.typ s.holder s.stays a cap c.who w4 (HR.out.below B4.out.below) (by omega) O hO);clear hO;go_wp2_with fail;refine OC.out.mono ?_;rintro e w9 ⟨a9,c9,rfl,hi9,b9⟩;have T9:=Hx (T4.out.over b9);have B9:=Hx (B4.out.over b9);clear OC T4 b9;go_wp2_with fail;refine(ig O a9 c9 3 _ MS hi9).mono ?_;rintro e w10 ⟨v10,rfl,Jr,b10⟩;have T10:=Hx (T9.out.over b10);have B10:=Hx (B9.out.over b10);have O10:=Hx (Jr.mono (show w4.heap.size<=w9.heap.size from T9.out.keeps.size));clear hi9 Jr b10 T9 B9;clear d0 d1 d2 d3 d4 k0 k1 k2 k3 k4 k6;clear t0 t1 t2 t3 t4 p0 p1 p2 p3 p4;obtain⟨d0,d1,d2,d3,d4⟩:=B10.out.s5;obtain⟨k0,k1,k2,k3,k4,k6⟩:=B10.out.c7;go_wp2_with fail;refine(jP s.gen s.regs s.typ s.holder s.stays a cap _).mono ?_;rintro e w7 ⟨rfl,b7⟩;have T7:=Hx (T10.out.over b7);have O7:=Hx (O10.out.below b7);clear b7 T10 B10 O10;clear d0 d1 d2 d3 d4 k0 k1 k2 k3 k4 k6;obtain⟨⟨t0,t1,t2,t3,t4⟩,p0,p1,p2,p3,p4⟩:=T7.out.t5;have T8:=Hs (TR w.heap.size a s.regs w4 T ⟨s.gen,[],0,0,s.stays⟩ none 0 ((kz w7 T ⟨s.gen,s.regs,0,0,s.stays⟩ a cap).setCell ⟨T,1,none⟩ (.slice none 0 0))) (     T7.out.next (af (bm _ _ _ _ _) _ _) (block_setCell (dD T7.out.hT _ _ _) _) ⟨by simp,bE.nil _ _ _⟩ (.inr (λb o e=>by cases e)));have O8:=Hx (O7.out.keeps (af (bm w7 T ⟨s.gen,s.regs,0,0,s.stays⟩ a cap) 1 (.slice none 0 0)) (λm hm=>by omega));unfold kz at T8 O8;go_wp2;go_meet;exact⟨_,_,_,_,E.out,T8.out,O8.out⟩
  .as_aux_lemma =>
    obtain rfl:false=B12:=by rw[<-KC]; simp[h]
    have Lu:(c.op == 3)=false:=by simp[h]
    have NI:(c.op == 4)=false:=by simp[h]
    have hop5:(c.op == 5)=false:=by simp[h]
    have hop6:(c.op == 6)=true:=by simp[h]
    have JB:=Hs (bN s c=cj s c) (by unfold bN; rw[if_neg (by omega),if_neg (by omega),if_neg (by omega),if_neg (by omega),if_pos h])
    have HE:∀f,cj s c=(none,f)->uX s c=(St.zero,[],f):=λf hf=>by rw[I0.out,JB.out,hf]
    have HERR:=Hx HE;obtain⟨TK,hTK⟩:=Nm (gh s c);have HTK:=Hx hTK;obtain⟨KH,hKH⟩:=Nm (keyOf s.regs s.holder);have RK:=Hx (λw' (h:bj w' s a)=>ji s a cap s.holder w' h);rw[hKH]at RK;have HKH:=Hx hKH;have HRQ:=Hx (λd os=>(HR.out.below B4.out.below).below (below_regrown w4 d os));have hTR:=hTK;unfold gh at hTR;rw[hKH]at hTR;have HTR:=Hx hTR;obtain⟨i0,hi,Ij,Ii,Im⟩:=info_parts Tryz.infoInt;obtain⟨i1,L2,hy0,hy1,hy2⟩:=info_parts Tryz.infoTell;have I1:=Hx hi;have I2:=Hx Ij;have I3:=Hx Ii;have I4:=Hx Im;have J1:=Hx L2;have J2:=Hx hy0;have J3:=Hx hy1;have J4:=Hx hy2;clear h h6 HE hTK hKH hTR hi Ij Ii Im L2 hy0 hy1 hy2;obtain⟨S7,hS7⟩:=Nm (decide (7<=s.typ));go_upto_region 39 with fail;go_upto_if 151 with fail;go_cut [11] (λv wx=>v=.bool TK/\Below w4.heap.size w4 wx)
    case first=>as_aux_lemma =>
     cases S7
     rotate_left 1
     .have h7:7<=s.typ:=of_decide_eq_true hS7
      have e0:(c.new == 0)=TK:=by have:=HTR.out; rw[if_pos h7]at this; rw[<-this]; by_cases h:c.new=0<;>simp[h]
      clear h7;go_wp2;go_meet;exact⟨rfl,Below.refl _ _⟩
     .have h7:¬ 7<=s.typ:=of_decide_eq_false hS7;have Ns:=HTR.out;rw[if_neg h7]at Ns;by_cases h0:0<s.typ
      .have e0:decide (0<s.typ)=true:=by simpa using h0
       have ek:(KH == c.new)=TK:=by rw[if_pos h0]at Ns; rw[<-Ns]; by_cases h:KH=c.new<;>simp[h]
       have hq:=cH (Below.refl w4.heap.size w4)
       have MK:w.heap.size<w4.heap.size:=by omega
       have JH:w.heap.size+1<w4.heap.size:=by omega
       clear h7 h0 Ns t0 t1 t2 t3 t4 p0 p1 p2 p3 p4;go_upto_region 42 with fail;refine wp_region_quiet_below (by kernel_rfl) (by kernel_rfl) ?_
       repeat(go_big_quiet_step (exact Calls.regrown_of (RK.out _ (HRQ.out _ _))))
       refine wpQuiet_nil ?_;rintro w' ⟨⟨dq,osq⟩,rfl⟩;go_wp2_with fail;go_meet;exact⟨rfl,below_regrown _ dq osq⟩
      .have e0:decide (0<s.typ)=false:=by simpa using h0
       obtain rfl:false=TK:=by rw[if_neg h0]at Ns; exact Ns
       clear h7 h0 Ns;go_wp2;go_meet;exact⟨rfl,Below.refl _ _⟩
    case rest =>
    obtain⟨rfl,b5⟩:=hcut
    obtain⟨w5,rfl⟩:∃w5:World,w5=wc:=⟨_,rfl⟩
    have T5:=Hx (T4.out.over b5);have B5:=Hx (B4.out.over b5);clear b5 RK HRQ T4 hS7 S7;clear d0 d1 d2 d3 d4 k0 k1 k2 k3 k4 k6;clear t0 t1 t2 t3 t4 p0 p1 p2 p3 p4;obtain⟨d0,d1,d2,d3,d4⟩:=B5.out.s5;obtain⟨k0,k1,k2,k3,k4,k6⟩:=B5.out.c7;obtain⟨Q,hQ⟩:=Nm ((c.new == 0) && !TK);have HQ:=Hx hQ;obtain⟨N0,hN0⟩:=Nm (c.new == 0);rw[hN0]at hQ;have HN0:=Hx hN0;go_upto_region 43 with fail;go_cut [171] (λv wx=>v=.bool Q/\wx=w5)
    case first=>as_aux_lemma =>
     cases N0
     .obtain rfl:false=Q:=by simpa using hQ
      go_wp2;go_meet;exact⟨rfl,rfl⟩
     .have e1:(!TK)=Q:=by simpa using hQ
      go_wp2;go_meet;exact⟨rfl,rfl⟩
    case rest =>
    obtain⟨rfl,e0⟩:=hcut;obtain rfl:=e0.symm;clear hQ;cases Q
    rotate_left 1
    .as_aux_lemma =>
      have E2:=Hx (HERR.out 5 (by
       have h:=HQ.out;simp only[Bool.and_eq_true,beq_iff_eq,Bool.not_eq_true']at h
       unfold cj; rw[if_pos ⟨h.1,by rw[HTK.out]; exact h.2⟩]))
      obtain⟨⟨z0,z1,z2,z3,z4⟩,y0,y1,y2,y3,y4⟩:=B5.out.z5;go_wp2;refine bodyPost_ret (v:=.tuple #[.agg #[.int .i64 0,.slice none 0 0,.int .i64 0,.int .i64 0,.bool false],.slice none 0 0,.int .i64 5]) (cE Tryz.results53 _ _ (w.heap.size+1+1) 34 #[.int .i64 0,.slice none 0 0,.int .i64 0,.int .i64 0,.bool false] _ (.slice none 0 0) (.int .i64 5) rfl rfl rfl (dD B5.out.hZ St.zero none 0) cK.1 rfl cK.2) rfl ?_;exact iO E2.out B5.out.below (bm _ _ St.zero none 0)
    have HN5:=Hs (¬ (c.new=0/\gh s c=false)) (by
     rintro⟨h1,h2⟩;have h:=HQ.out;rw[HTK.out]at h2;rw[h1,h2]at h
     cases h)
    obtain⟨G,hG⟩:∃G:Nat->List Int,G=λk=>aD c.who c.new (s.regs.take k):=⟨_,rfl⟩
    obtain⟨F,hF⟩:∃F:Nat->List Int,F=λk=>fo c.who c.new (s.regs.take k):=⟨_,rfl⟩
    obtain⟨PL,hPL⟩:∃PL:Nat->List (Int × Int),PL=λk=>putOut s.regs (G k):=⟨_,rfl⟩
    have HGL:=Hs (∀k,(G k).length<=k) (λk=>by rw[hG]; exact Nat.le_trans (pm _ _ _) (by simp; omega));have HFL:=Hs (∀k,(F k).length<=k) (λk=>by rw[hF]; exact Nat.le_trans (Bn _ _ _) (by simp; omega));have HPF:=Hs (∀k,sX (PL k) 40) (λk=>by rw[hPL]; exact HL.out.putOut (G k));have HG0:=Hs (G 0=[]/\F 0=[]/\PL 0=s.regs) (by rw[hPL,hG,hF]; simp[aD,fo,putOut])
    have HSTEP:=Hx (show ∀k (h:k<s.regs.length),
      (io c.who c.new s.regs[k]=true->G (k+1)=G k ++ [s.regs[k].1]/\F (k+1)=F k/\PL (k+1)=aZ (PL k) s.regs[k].1 0) /\
      (s.regs[k].1=c.who->G (k+1)=G k/\F (k+1)=F k/\PL (k+1)=PL k) /\
      (s.regs[k].1≠c.who->io c.who c.new s.regs[k]=false->G (k+1)=G k/\F (k+1)=F k ++ [s.regs[k].1]/\PL (k+1)=PL k) from λk h=>by
     rw[hPL,hG,hF];refine⟨λe=>?_,λe=>?_,λe1 e2=>?_⟩
     .have:=mr c.who c.new s.regs k h e;exact⟨this,ux c.who c.new s.regs k h (by rw[e]; simp),by dsimp only; rw[this,uh]⟩
     .have o:io c.who c.new s.regs[k]=false:=by simp[io,e]
      have:=lN c.who c.new s.regs k h o;exact⟨this,ux c.who c.new s.regs k h (by simp[e]),by dsimp only; rw[this]⟩
     .have:=lN c.who c.new s.regs k h e2
      exact⟨this,yU c.who c.new s.regs k h (by simp[e1,e2]),by dsimp only; rw[this]⟩)
    have HFIN:=Hs (∀k,s.regs.length<=k->G k=aD c.who c.new s.regs/\F k=fo c.who c.new s.regs/\PL k=putOut s.regs (aD c.who c.new s.regs)) (λk h=>by rw[hPL,hG,hF]; refine⟨?_,?_,?_⟩<;>simp only[List.take_of_length_le h])
    clear hG hF hPL;have T5':=Hs (TR w.heap.size a s.regs w4 T ⟨s.gen,PL 0,s.typ,s.holder,s.stays⟩ a cap w5) (by rw[HG0.out.2.2]; exact T5.out);clear T5;go_wp2;go_loopw [12,13,14,15] (λvg vl i _ wx=>GA w.heap.size a s.regs s.gen s.typ s.holder s.stays w4 T G F PL vg vl i wx) (λ_ _ i _ _=>s.regs.length - (intOf i).toNat)
    case atStart=>exact⟨0,a,cap,by omega,rfl,T5'.out,by rw[HG0.out.1]; exact⟨rfl,.inl ⟨rfl,rfl⟩⟩,by rw[HG0.out.2.1]; exact⟨rfl,.inl ⟨rfl,rfl⟩⟩,(λq h=>by cases h),(λq b o hp e h=>by rcases h with h | h<;>cases h)⟩
    case round =>
     obtain⟨k,a3,c3,hk,rfl,tr,og,ol,ap1,ap2⟩:=hrel;have TR0:=Hx tr;have OG:=Hx og;have OL:=Hx ol;have AP1:=Hx ap1;have AP2:=Hx ap2;have BR:=Hx (tr.ob B4.out hNT);have hw4r:w4.heap.size<=wr.heap.size:=tr.keeps.size;clear tr og ol ap1 ap2 T5' B5;clear d0 d1 d2 d3 d4 k0 k1 k2 k3 k4 k6;by_cases lB:k<s.regs.length
     .obtain⟨b,o,rfl,Ix,h1,h2⟩:=HP.out k lB;have q1:=(BR.out.below.cell (p:=⟨b,o+k*2,none⟩) Ix).trans h1;have q2:=(BR.out.below.cell (p:=⟨b,o+k*2+1,none⟩) Ix).trans h2;clear h1 h2;have Jb:=Hx (HSTEP.out k lB);obtain⟨X,hX⟩:=Nm (s.regs[k]);obtain⟨x,y⟩:=X;rw[hX]at Jb q1 q2;dsimp only at q1 q2;clear hX;obtain⟨d0,d1,d2,d3,d4⟩:=BR.out.s5;obtain⟨k0,k1,k2,k3,k4,k6⟩:=BR.out.c7;go_upto_region 50 with fail;obtain⟨w5,Jc⟩:=Nn (wr.alloc (.cells #[.int .i64 x,.int .i64 y] 144));rw[<-Jc];have b5:Below wr.heap.size wr w5:=Jc▸ay wr _;have T5:=Hx (TR0.out.over b5);have OG5:=Hx (OG.out.below b5);have OL5:=Hx (OL.out.below b5);have RB:=Hs (w5.heap[wr.heap.size]?=some (.cells #[.int .i64 x,.int .i64 y] 144 (0,0))) (Jc▸heap_alloc_new wr _)
      have hV5:wr.heap.size<w5.heap.size:=by rw[Jc]; simp
      have B5:=Hx (BR.out.over b5)
      have hw45:w4.heap.size<=w5.heap.size:=by omega
      have OWG:=Hs (∀q,u12.ownBlock=some q->w4.heap.size<=q/\q<wr.heap.size) (λq h=>rW OG.out h);have OWL:=Hs (∀q,u13.ownBlock=some q->w4.heap.size<=q/\q<wr.heap.size) (λq h=>rW OL.out h)
      have A3L:=Hs (0<(PL k).length->∀b o,a3=some ⟨b,o,none⟩->b<wr.heap.size) (λhp b o e=>by
       obtain⟨b',o',e',Jk,-⟩:=TR0.out.str.rep 0 hp
       rw[e]at e'; cases e'; exact Jk)
      clear Jc b5 q1 q2 TR0 OG OL BR;clear d0 d1 d2 d3 d4 k0 k1 k2 k3 k4 k6;obtain⟨d0,d1,d2,d3,d4⟩:=B5.out.s5;obtain⟨k0,k1,k2,k3,k4,k6⟩:=B5.out.c7;obtain⟨V,hV⟩:=Nm wr.heap.size;rw[hV]at RB hV5 OWG OWL A3L hw4r;rw[hV];clear hV
      have r0:w5.cell? ⟨V,0,none⟩=some (.int .i64 x):=by simp[World.cell?,RB.out]
      have r1:w5.cell? ⟨V,1,none⟩=some (.int .i64 y):=by simp[World.cell?,RB.out]
      have hgk:(G k).length<=40:=by have:=HGL.out k; omega
      have hfk:(F k).length<=40:=by have:=HFL.out k; omega
      by_cases hx:x=c.who
      .as_aux_lemma =>
        have ex:(x == c.who)=true:=by simp[hx]
        have HE:=Hx (Jb.out.2.1 hx);clear hx Jb;go_wp2;go_roundw
        case rel=>exact⟨k+1,a3,c3,by omega,by go_num,by rw[HE.out.2.2]; exact T5.out,by rw[HE.out.1]; exact OG5.out,by rw[HE.out.2.1]; exact OL5.out,AP1.out,λq b o hp e h=>AP2.out q b o (by rw[HE.out.2.2]at hp; exact hp) e h⟩
        case measure=>simp[intOf]; omega
      have ex:(x == c.who)=false:=by simp[hx]
      obtain⟨O,hO⟩:=Nm ((c.new == 0) || (y == c.new));have HOB:=Hs (io c.who c.new (x,y)=O) (by rw[<-hO]; unfold io; rw[Bool.eq_iff_iff]; simp[hx]);have HX:=Hx hx;clear hx;go_upto_region 51 with fail;go_cut [199] (λv wx=>v=.bool O/\wx=w5)
      case first=>as_aux_lemma =>
       rw[hN0]at hO;cases N0
       .have e1:(y == c.new)=O:=by simpa using hO
        go_wp2;go_meet;exact⟨rfl,rfl⟩
       .obtain rfl:true=O:=by simpa using hO
        go_wp2;go_meet;exact⟨rfl,rfl⟩
      case rest =>
      obtain⟨rfl,e0⟩:=hcut;obtain rfl:=e0.symm;clear hO;cases O
      .as_aux_lemma =>
        have HE:=Hx (Jb.out.2.2 HX.out HOB.out);have OW:=Hx (λo=>show(w5.alloc o).ownsRow w4.heap.size 3 1 u13 (F k).length ((F k).map (Value.int .i64)) from OL5.out.below (ay w5 o));clear Jb;go_wp2_with (at_builtin; refine wpList_append_own_at _ rfl _ _ 71 rfl w4.heap.size 3 i0 (.int .i64 0) 1 8 Tryz.underlying71 I1.out I2.out I3.out I4.out rfl (by decide) _ _ _ rfl (OW.out _) ⟨w5.heap.size,0,none⟩ 1 1 [.int .i64 x] rfl rfl (tR w5 #[.int .i64 x] _) (λu hu=>by simp at hu; subst hu; rfl) (by unfold maxLen; omega) (by omega) (Nat.le_trans hw45 (ay w5 _).size) ?_);intro v6 w6 ec hg _ Iw
        have k6:ac (λb=>u13.ownBlock=some b) w5 w6:=⟨hg.os,hg.tape,hg.output,Nat.le_trans (by simp) hg.size,λb hb hl=>(hg.block b (by simp; omega) (Ne.symm hb)).trans (Below.heap_alloc _ _ _ hl)⟩
        have T6:=Hx (T5.out.moves k6 (λb h=>(OWL.out b h).1) (λhp b o e h=>AP2.out b b o hp e (.inr h) rfl));have O6:=Hs (bh w4.heap.size w6 v6 (F k ++ [x])) (by simpa[bh] using ec);have P6:=Hx (qG OG5.out k6 (λb h h'=>AP1.out b h h'));have R6:=Hs (w6.cell? ⟨V,0,none⟩=some (.int .i64 x)) ((k6.cell (b:=V) (o:=0) (λh=>by have:=(OWL.out _ h).2; omega) hV5).trans r0)
        have VQ:=Hs (∀q,v6.ownBlock=some q->(u13.ownBlock=some q\/w5.heap.size<q)) (λq h=>by
         rcases Iw with e | e
         .exact .inl (e▸h)
         .rw[e]at h; simp at h; exact .inr (by omega))
        have A1:=Hs (∀q,v6.ownBlock=some q->u12.ownBlock≠some q) (λq h h'=>by
         rcases VQ.out q h with e | e
         .exact AP1.out q h' e
         .have:=(OWG.out q h').2; omega)
        clear ec hg Iw OW r0 r1;go_wp2;go_roundw
        case rel=>exact⟨k+1,a3,c3,by omega,by go_num,by rw[HE.out.2.2]; exact T6.out,by rw[HE.out.1]; exact P6.out,by rw[HE.out.2.1]; exact O6.out,λq h h'=>A1.out q h' h,λq b o hp e h=>by
         rw[HE.out.2.2]at hp
         rcases h with h | h
         .exact AP2.out q b o hp e (.inl h)
         .rcases VQ.out q h with h' | h'
          .exact AP2.out q b o hp e (.inr h')
          .have:=A3L.out hp b o e; omega⟩
        case measure=>simp[intOf]; omega
      .as_aux_lemma =>
        have HE:=Hx (Jb.out.1 HOB.out);have OW:=Hx (λo=>show(w5.alloc o).ownsRow w4.heap.size 3 1 u12 (G k).length ((G k).map (Value.int .i64)) from OG5.out.below (ay w5 o));clear Jb;go_wp2_with (at_builtin; refine wpList_append_own_at _ rfl _ _ 71 rfl w4.heap.size 3 i0 (.int .i64 0) 1 8 Tryz.underlying71 I1.out I2.out I3.out I4.out rfl (by decide) _ _ _ rfl (OW.out _) ⟨w5.heap.size,0,none⟩ 1 1 [.int .i64 x] rfl rfl (tR w5 #[.int .i64 x] _) (λu hu=>by simp at hu; subst hu; rfl) (by unfold maxLen; omega) (by omega) (Nat.le_trans hw45 (ay w5 _).size) ?_);intro v6 w6 ec hg _ Iw
        have k6:ac (λb=>u12.ownBlock=some b) w5 w6:=⟨hg.os,hg.tape,hg.output,Nat.le_trans (by simp) hg.size,λb hb hl=>(hg.block b (by simp; omega) (Ne.symm hb)).trans (Below.heap_alloc _ _ _ hl)⟩
        have T6:=Hx (T5.out.moves k6 (λb h=>(OWG.out b h).1) (λhp b o e h=>AP2.out b b o hp e (.inl h) rfl));have O6:=Hs (bh w4.heap.size w6 v6 (G k ++ [x])) (by simpa[bh] using ec);have P6:=Hx (qG OL5.out k6 (λb h h'=>AP1.out b h' h));have R6:=Hs (w6.cell? ⟨V,0,none⟩=some (.int .i64 x)) ((k6.cell (b:=V) (o:=0) (λh=>by have:=(OWG.out _ h).2; omega) hV5).trans r0)
        have VQ:=Hs (∀q,v6.ownBlock=some q->(u12.ownBlock=some q\/w5.heap.size<q)) (λq h=>by
         rcases Iw with e | e
         .exact .inl (e▸h)
         .rw[e]at h; simp at h; exact .inr (by omega))
        have A1:=Hs (∀q,v6.ownBlock=some q->u13.ownBlock≠some q) (λq h h'=>by
         rcases VQ.out q h with e | e
         .exact AP1.out q e h'
         .have:=(OWL.out q h').2; omega)
        clear ec hg Iw OW r0 r1;obtain⟨⟨t0,t1,t2,t3,t4⟩,-⟩:=T6.out.t5;have r6:=R6.out;obtain⟨LN,hLN⟩:=Nm (aZ (PL k) x 0);have WC:=Hx (xh s.gen (PL k) s.typ s.holder s.stays a3 c3 x 0 w6 T6.out.str (by have:=(HPF.out k).len; omega) (Int.le_refl _) (HPF.out k).sort LN hLN);rw[hLN]at HE;clear hLN;dsimp only at t0 t1 t2 t3 t4;go_wp2_with fail;refine WC.out.mono ?_;rintro e w7 ⟨a7,c7,rfl,Nc,b7,lo7⟩;have T7:=Hx (T6.out.over b7);have O7:=Hx (O6.out.below b7);have P7:=Hx (P6.out.below b7);have T8:=Hx (T7.out.put ⟨s.gen,LN,s.typ,s.holder,s.stays⟩ a7 c7 Nc (.inr (λb o e=>Nat.le_trans T6.out.keeps.size (lo7 b o e))));have O8:=Hx (O7.out.keeps (bm w7 T ⟨s.gen,LN,s.typ,s.holder,s.stays⟩ a7 c7) (λm hm=>by omega));have P8:=Hx (P7.out.keeps (bm w7 T ⟨s.gen,LN,s.typ,s.holder,s.stays⟩ a7 c7) (λm hm=>by omega))
        have LO:=Hs (∀q b o,a7=some ⟨b,o,none⟩->(v6.ownBlock=some q\/u13.ownBlock=some q)->b≠q) (λq b o e h=>by
         have h1:=lo7 b o e
         rcases h with h | h
         .have:=(rW O6.out h).2; omega
         .have:=(rW P6.out h).2; omega)
        unfold kz at T8 O8 P8;clear t0 t1 t2 t3 t4 r6 Nc b7 lo7 WC;obtain⟨⟨t0,t1,t2,t3,t4⟩,p0,p1,p2,p3,p4⟩:=T7.out.t5;go_wp2;go_roundw
        case rel=>exact⟨k+1,a7,c7,by omega,by go_num,by rw[HE.out.2.2]; exact T8.out,by rw[HE.out.1]; exact O8.out,by rw[HE.out.2.1]; exact P8.out,A1.out,λq b o _ e h=>LO.out q b o e h⟩
        case measure=>simp[intOf]; omega
     .obtain rfl:k=s.regs.length:=by omega
      obtain⟨GG,hGG⟩:=Nm (G s.regs.length);obtain⟨FF,hFF⟩:=Nm (F s.regs.length);obtain⟨PP,hPP⟩:=Nm (PL s.regs.length);have HF0:=HFIN.out s.regs.length (Nat.le_refl _);have hg0:=HGL.out s.regs.length;have hf0:=HFL.out s.regs.length;rw[hGG]at OG HF0 hg0;rw[hFF]at OL HF0 hf0;rw[hPP]at TR0 HF0;have HF:=Hx HF0;clear hGG hFF hPP HF0 HSTEP HFIN HGL HFL HPF HG0 AP1 AP2 lB hk
      have HPR:=Hx (show cj s c=(if TK=false/\GG.length=0/\Ky≠c.new then(none,4)
        else if TK=true then(some (⟨s.gen,PP,c.typ,if 7<=c.typ then 0 else c.who,s.stays⟩,az GG 1 ++ (if s.typ≠c.typ then az FF 2 else [])),0)
        else(some (⟨s.gen,PP,s.typ,s.holder,s.stays⟩,az GG 1),0)) from by
       unfold cj; rw[if_neg HN5.out,HTK.out,<-HF.out.1,HKY.out,HF.out.2.1,HF.out.2.2,<-HF.out.1]; rfl)
      obtain⟨ag,cg,hvg,-⟩:=OG.out.shape;obtain⟨al,cl,hvl,-⟩:=OL.out.shape;subst hvg;subst hvl;obtain⟨ng,hng⟩:=Nm GG.length;obtain⟨nf,hnf⟩:=Nm FF.length;have IG:=Hx OG.out.ints;have IL:=Hx OL.out.ints;have RT1:=Hx (λw' (h:Ints w'.heap.size w' ag GG)=>ig GG ag cg 1 w' (by omega) h);have RT2:=Hx (λw' (h:Ints w'.heap.size w' al FF)=>ig FF al cl 2 w' (by omega) h);rw[hng]at HPR RT1 ⊢;rw[hnf]at RT2 ⊢;have HNG:=Hx hng;have HNF:=Hx hnf;clear hng hnf OG OL;obtain⟨d0,d1,d2,d3,d4⟩:=BR.out.s5;obtain⟨k0,k1,k2,k3,k4,k6⟩:=BR.out.c7;obtain⟨Q2,hQ2⟩:=Nm (!TK && (decide (ng=0) && (Ky != c.new)));have HQ2:=Hx hQ2;go_upto_region 55 with fail;go_cut [226] (λv wx=>v=.bool Q2/\wx=wr)
      case first=>as_aux_lemma =>
       cases TK
       .by_cases h0:ng=0
        .have e0:((ng:Int) == 0)=true:=by simp[h0]
         have e1:(Ky != c.new)=Q2:=by rw[<-hQ2]; simp[h0]
         clear h0;go_wp2;go_meet;exact⟨rfl,rfl⟩
        .have e0:((ng:Int) == 0)=false:=by simp; omega
         obtain rfl:false=Q2:=by rw[<-hQ2]; simp[h0]
         clear h0;go_wp2;go_meet;exact⟨rfl,rfl⟩
       .obtain rfl:false=Q2:=by rw[<-hQ2]; rfl
        go_wp2;go_meet;exact⟨rfl,rfl⟩
      case rest =>
      obtain⟨rfl,e0⟩:=hcut;obtain rfl:=e0.symm;clear hQ2;cases Q2
      rotate_left 1
      .as_aux_lemma =>
        have E2:=Hx (HERR.out 4 (by
         have h:=HQ2.out;simp only[Bool.and_eq_true,Bool.not_eq_true',decide_eq_true_eq,bne_iff_ne]at h
         rw[HPR.out,if_pos ⟨h.1,h.2.1,h.2.2⟩]))
        obtain⟨⟨z0,z1,z2,z3,z4⟩,y0,y1,y2,y3,y4⟩:=BR.out.z5;go_wp2;refine bodyPost_ret (v:=.tuple #[.agg #[.int .i64 0,.slice none 0 0,.int .i64 0,.int .i64 0,.bool false],.slice none 0 0,.int .i64 4]) (cE Tryz.results53 _ _ (w.heap.size+1+1) 34 #[.int .i64 0,.slice none 0 0,.int .i64 0,.int .i64 0,.bool false] _ (.slice none 0 0) (.int .i64 4) rfl rfl rfl (dD BR.out.hZ St.zero none 0) cK.1 rfl cK.2) rfl ?_;exact iO E2.out BR.out.below (bm _ _ St.zero none 0)
      have M6:=Hx (HPR.out.trans (if_neg (by
       rintro⟨h1,h2,h3⟩;have h:=HQ2.out
       simp[h1,h2,h3]at h)))
      clear HPR HQ2 HERR;go_wp2_with fail;refine(RT1.out _ IG.out).mono ?_;rintro e w10 ⟨v10,rfl,Jr,b10⟩;have T10:=Hx (TR0.out.over b10);have B10:=Hx (BR.out.over b10);have O10:=Hx (Jr.mono hw4r);have VB:=Hs (∀q,v10.ownBlock=some q->wr.heap.size<=q) Jr.blk
      have A3R:=Hs (0<PP.length->∀b o,a3=some ⟨b,o,none⟩->b<wr.heap.size) (λhp b o e=>by
       obtain⟨b',o',e',Jk,-⟩:=TR0.out.str.rep 0 hp
       rw[e]at e'; cases e'; exact Jk)
      have IL10:=Hx ((IL.out.below b10 (Nat.le_refl _)).mono b10.size);clear Jr b10 TR0 BR IG IL RT1;clear d0 d1 d2 d3 d4 k0 k1 k2 k3 k4 k6;obtain⟨d0,d1,d2,d3,d4⟩:=B10.out.s5;obtain⟨k0,k1,k2,k3,k4,k6⟩:=B10.out.c7;cases TK
      .as_aux_lemma =>
        have E:=Hs ((bN s c).1=some (⟨s.gen,PP,s.typ,s.holder,s.stays⟩,az GG 1)) (by rw[JB.out,M6.out,if_neg (by simp)]);go_wp2;go_meet;exact⟨_,_,_,_,E.out,T10.out,O10.out⟩
      have E:=Hs ((bN s c).1=some (⟨s.gen,PP,c.typ,if 7<=c.typ then 0 else c.who,s.stays⟩,az GG 1 ++ (if s.typ≠c.typ then az FF 2 else []))) (by rw[JB.out,M6.out,if_pos rfl]);clear M6;obtain⟨hd,hhd⟩:=Nm (if 7<=c.typ then 0 else c.who);have TKN:=Hx (λaa cc w'=>qu s.gen PP s.typ s.holder s.stays aa cc c.typ c.who w');rw[hhd]at TKN E;clear hhd;obtain⟨XX,hXX⟩:=Nm (az GG 1 ++ (if s.typ≠c.typ then az FF 2 else []));rw[hXX]at E;obtain⟨TE,hTE⟩:=Nm (s.typ != c.typ);go_upto_region 59 with fail;go_upto_if 235 with fail;go_cut [10] (λv wx=>bT w4.heap.size wx v XX/\TR w.heap.size a s.regs w4 T ⟨s.gen,PP,s.typ,s.holder,s.stays⟩ a3 c3 wx)
      case first=>as_aux_lemma =>
       cases TE
       .have he:s.typ=c.typ:=by simpa using hTE
        have Ks:=Hs (XX=az GG 1) (by rw[<-hXX,if_neg (by simpa using he),List.append_nil]);clear he hTE;go_wp2;go_meet;exact⟨by rw[Ks.out]; exact O10.out,T10.out⟩
       .have he:s.typ≠c.typ:=by simpa using hTE
        have Ks:=Hs (XX=az GG 1 ++ az FF 2) (by rw[<-hXX,if_pos he]);clear he hXX hTE;go_wp2_with fail;refine(RT2.out _ IL10.out).mono ?_;rintro e w11 ⟨v11,rfl,ho11,b11⟩;have T11:=Hx (T10.out.over b11);have O11:=Hx (O10.out.below b11);obtain⟨X1,Nq⟩:=Nm (az GG 1);obtain⟨X2,hX2⟩:=Nm (az FF 2)
        have l1:X1.length<=40:=by rw[<-Nq]; simp[az]; omega
        have l2:X2.length<=40:=by rw[<-hX2]; simp[az]; omega
        rw[Nq]at O11 Ks;rw[hX2]at ho11 Ks;obtain⟨a11,c11,rfl,hp11⟩:=ho11.shape;clear Nq hX2 O10 T10 b11 RT2 IL10;by_cases e0:X2.length=0
        .have HX2:=Hs (XX=X1) (by rw[Ks.out,List.length_eq_zero_iff.1 e0,List.append_nil]);obtain⟨a10,c10,hv,-⟩:=O11.out.shape;subst hv;have IF:X1.length<=c10:=xp O11.out;rw[e0];clear e0;go_wp2_with (at_builtin; refine fG rfl _ _ 115 rfl 120 i1 Tryz.underlying115 J1.out a10 X1.length c10 IF a11 c11 rfl rfl ?_);go_meet;exact⟨by rw[HX2.out]; exact O11.out,T11.out⟩
        .have hp:∃b o,a11=some ⟨b,o,none⟩:=by
          obtain⟨b,o,e,-⟩:=hp11 0 (by omega);exact⟨b,o,e⟩
         obtain⟨b,o,rfl⟩:=hp;go_wp2_with (at_builtin; refine wpList_append_own _ rfl _ _ 115 rfl w4.heap.size 120 i1 (.agg #[.int .i64 0,.int .i64 0]) 2 16 Tryz.underlying115 J1.out J2.out J3.out J4.out rfl (by decide) _ _ _ rfl O11.out ⟨b,o,none⟩ X2.length c11 (ah X2) rfl (aF _) (gQ hp11) (bC _) (by unfold maxLen; omega) (by omega) T11.out.keeps.size ?_);intro v' w12 ec hg _
         have k12:ac (λb=>v10.ownBlock=some b) w11 w12:=⟨hg.os,hg.tape,hg.output,hg.size,λb hb hl=>hg.block b hl (Ne.symm hb)⟩
         have T12:=Hx (T11.out.moves k12 (λb h=>by have:=VB.out b h; omega) (λhp b o e h=>by have:=VB.out b h; have:=A3R.out hp b o e; omega));have O12:=Hs (bT w4.heap.size w12 v' XX) (by rw[Ks.out]; exact xq ec);clear ec hg k12;go_wp2;go_meet;exact⟨O12.out,T12.out⟩
      case rest =>
      obtain⟨ho,tr⟩:=hcut
      obtain⟨w13,rfl⟩:∃w13:World,w13=wc:=⟨_,rfl⟩
      have O13:=Hx ho;have T13:=Hx tr;have B13:=Hx (tr.ob B4.out hNT);clear ho tr T10 O10 B10 RT2 IL10 VB A3R;clear d0 d1 d2 d3 d4 k0 k1 k2 k3 k4 k6;obtain⟨d0,d1,d2,d3,d4⟩:=B13.out.s5;obtain⟨k0,k1,k2,k3,k4,k6⟩:=B13.out.c7;obtain⟨⟨t0,t1,t2,t3,t4⟩,p0,p1,p2,p3,p4⟩:=T13.out.t5;dsimp only at t0 t1 t2 t3 t4;go_wp2_with fail;refine(TKN.out a3 c3 _).mono ?_;rintro e w14 ⟨rfl,b14⟩;have T14:=Hx (T13.out.over b14);have O14:=Hx (O13.out.below b14);clear b14 T13 O13 B13;clear d0 d1 d2 d3 d4 k0 k1 k2 k3 k4 k6;clear t0 t1 t2 t3 t4 p0 p1 p2 p3 p4;obtain⟨⟨t0,t1,t2,t3,t4⟩,p0,p1,p2,p3,p4⟩:=T14.out.t5;have T15:=Hx (T14.out.put ⟨s.gen,PP,c.typ,hd,s.stays⟩ a3 c3 (db T14.out.str _ rfl) T14.out.al);have O15:=Hx (O14.out.keeps (bm w14 T ⟨s.gen,PP,c.typ,hd,s.stays⟩ a3 c3) (λm hm=>by omega));unfold kz at T15 O15;go_wp2;go_meet;exact⟨_,_,_,_,E.out,T15.out,O15.out⟩
 case rest =>
  obtain⟨wo,rfl⟩:∃wo:World,wo=wc:=⟨_,rfl⟩
  obtain⟨r,lt,a3,c3,hra,tr,ho⟩:=hcut;have MW:=yw hra
  have Il:0<=r.gen/\r.gen<=1000000000:=by rw[MW]; exact hg
  have T5:=Hx tr;have O5:=Hx ho;have B5:=Hx (tr.ob B4.out hNT);have JF:=Hs (uX s c=if c.op≠3/\c.op≠4 then(r.next,lt,0) else(r,lt,0)) (by rw[I0.out,hra]);clear MW tr ho hra I0 T4;clear d0 d1 d2 d3 d4 k0 k1 k2 k3 k4 k6;clear t0 t1 t2 t3 t4 p0 p1 p2 p3 p4;obtain⟨d0,d1,d2,d3,d4⟩:=B5.out.s5;obtain⟨k0,k1,k2,k3,k4,k6⟩:=B5.out.c7;obtain⟨⟨t0,t1,t2,t3,t4⟩,p0,p1,p2,p3,p4⟩:=T5.out.t5;obtain⟨⟨z0,z1,z2,z3,z4⟩,y0,y1,y2,y3,y4⟩:=B5.out.z5
  have Ik:T≠w.heap.size+1+1:=by omega
  have hne2:w.heap.size+1+1≠T:=by omega
  by_cases h3:c.op=3
  .have IK:(c.op != 3)=false:=by simp[h3]
   have E:=Hx (JF.out.trans (if_neg (by omega)));clear h3 JF;go_wp2;refine bodyPost_ret (v:=.tuple #[.agg #[.int .i64 r.gen,.slice a3 r.regs.length c3,.int .i64 r.typ,.int .i64 r.holder,.bool r.stays],u10,.int .i64 0]) (cE Tryz.results53 _ _ (w.heap.size+1+1) 34 #[.int .i64 r.gen,.slice a3 r.regs.length c3,.int .i64 r.typ,.int .i64 r.holder,.bool r.stays] _ u10 (.int .i64 0) rfl rfl rfl (dD B5.out.hZ r a3 c3) cK.1 rfl cK.2) rfl ?_;exact nI (r:=r) E.out B5.out.below T5.out O5.out h44 (bm _ _ r a3 c3)
  have n3:=h3;clear h3;by_cases h3:c.op=4
  .have IK:(c.op != 3)=true:=by simp[h3]
   have JQ:(c.op != 4)=false:=by simp[h3]
   have E:=Hx (JF.out.trans (if_neg (by omega)));clear h3 JF;go_wp2;refine bodyPost_ret (v:=.tuple #[.agg #[.int .i64 r.gen,.slice a3 r.regs.length c3,.int .i64 r.typ,.int .i64 r.holder,.bool r.stays],u10,.int .i64 0]) (cE Tryz.results53 _ _ (w.heap.size+1+1) 34 #[.int .i64 r.gen,.slice a3 r.regs.length c3,.int .i64 r.typ,.int .i64 r.holder,.bool r.stays] _ u10 (.int .i64 0) rfl rfl rfl (dD B5.out.hZ r a3 c3) cK.1 rfl cK.2) rfl ?_;exact nI (r:=r) E.out B5.out.below T5.out O5.out h44 (bm _ _ r a3 c3)
  have n4:=h3;clear h3
  have IK:(c.op != 3)=true:=by rw[bne_iff_ne]; exact n3
  have JQ:(c.op != 4)=true:=by rw[bne_iff_ne]; exact n4
  have E:=Hx (JF.out.trans (if_pos ⟨n3,n4⟩));clear n3 n4 JF h6;by_cases hov:1000000000<r.gen+1
  .have E2:=Hs (uX s c=(⟨0,r.regs,r.typ,r.holder,r.stays⟩,lt,0)) (by rw[E.out]; simp only[St.next,if_pos hov]);have T6:=Hs (TR w.heap.size a s.regs w4 T ⟨0,r.regs,r.typ,r.holder,r.stays⟩ a3 c3 ((wo.setCell ⟨T,0,none⟩ (.int .i64 (r.gen+1))).setCell ⟨T,0,none⟩ (.int .i64 0))) (    T5.out.next (af (af (ac.refl _ _) _ _) _ _) (block_setCell (block_setCell T5.out.hT _) _) (db T5.out.str _ rfl) T5.out.al);have O6:=Hx (O5.out.keeps (af (af (ac.refl (·=T) wo) 0 (.int .i64 (r.gen+1))) 0 (.int .i64 0)) (λm hm=>by omega));have B6:=Hx (T6.out.ob B4.out hNT);go_wp2;refine bodyPost_ret (v:=.tuple #[.agg #[.int .i64 0,.slice a3 r.regs.length c3,.int .i64 r.typ,.int .i64 r.holder,.bool r.stays],u10,.int .i64 0]) (cE Tryz.results53 _ _ (w.heap.size+1+1) 34 #[.int .i64 0,.slice a3 r.regs.length c3,.int .i64 r.typ,.int .i64 r.holder,.bool r.stays] _ u10 (.int .i64 0) rfl rfl rfl (dD B6.out.hZ ⟨0,r.regs,r.typ,r.holder,r.stays⟩ a3 c3) cK.1 rfl cK.2) rfl ?_;exact nI (r:=⟨0,r.regs,r.typ,r.holder,r.stays⟩) E2.out B6.out.below T6.out O6.out h44 (bm _ _ ⟨0,r.regs,r.typ,r.holder,r.stays⟩ a3 c3)
  .have E2:=Hs (uX s c=(⟨r.gen+1,r.regs,r.typ,r.holder,r.stays⟩,lt,0)) (by rw[E.out]; simp only[St.next,if_neg hov]);have T6:=Hs (TR w.heap.size a s.regs w4 T ⟨r.gen+1,r.regs,r.typ,r.holder,r.stays⟩ a3 c3 (wo.setCell ⟨T,0,none⟩ (.int .i64 (r.gen+1)))) (    T5.out.next (af (ac.refl _ _) _ _) (block_setCell T5.out.hT _) (db T5.out.str _ rfl) T5.out.al);have O6:=Hx (O5.out.keeps (af (ac.refl (·=T) wo) 0 (.int .i64 (r.gen+1))) (λm hm=>by omega));have B6:=Hx (T6.out.ob B4.out hNT);go_wp2;refine bodyPost_ret (v:=.tuple #[.agg #[.int .i64 (r.gen+1),.slice a3 r.regs.length c3,.int .i64 r.typ,.int .i64 r.holder,.bool r.stays],u10,.int .i64 0]) (cE Tryz.results53 _ _ (w.heap.size+1+1) 34 #[.int .i64 (r.gen+1),.slice a3 r.regs.length c3,.int .i64 r.typ,.int .i64 r.holder,.bool r.stays] _ u10 (.int .i64 0) rfl rfl rfl (dD B6.out.hZ ⟨r.gen+1,r.regs,r.typ,r.holder,r.stays⟩ a3 c3) cK.1 rfl cK.2) rfl ?_;exact nI (r:=⟨r.gen+1,r.regs,r.typ,r.holder,r.stays⟩) E2.out B6.out.below T6.out O6.out h44 (bm _ _ ⟨r.gen+1,r.regs,r.typ,r.holder,r.stays⟩ a3 c3)
