import Derived.Test.YtjalgpcigojpkaaGreatDoorQ21
set_option maxRecDepth 99999
set_option maxHeartbeats 99999999
namespace Go.Proofs.YtjalgpcigojpkaaGreatDoor
section
open Go.RowKit Go.Sort
theorem oq{b:Bool}{x m r:Int}(h:(!b && (x != 0))=true):stage b x m r=2:=by
 cases b
 .exact jE rfl (by simpa using h)
 .simp at h
theorem eH{b:Bool}{x:Int}(h:(!b && (x != 0))=false):¬ (b=false/\x≠0):=by rintro⟨rfl,e⟩;simp[e]at h
def cL(c:bG)(w:World)(e:Ending)(w':World):Prop:=e=.returned (.int .i64 (aB c))/\Below w.heap.size w w'
theorem cL.mk{c:bG}{w w':World}{e:Ending}{f:Int}(h:aB c=f)(he:e=.returned (.int .i64 f))(hb:Below w.heap.size w w'):cL c w e w':=⟨h▸he,hb⟩
theorem jJ(c:bG)(w:World)(hs:c.data.size<=9223372036854775807/\c.want.size<=9223372036854775807) : Calls Tryz.prog 51 #[eX c] w (cL c w):=by
 obtain⟨op,who,key,new,typ,at_,stays,data,want⟩:=c;dsimp only at hs;by_cases h1:op<1
 .go_enter Tryz.func51,Tryz.ntmps51
  go_wp2;go_ret;exact cL.mk (if_pos (.inl h1)) rfl (ay w _)
 by_cases h9:9<op
 .go_enter Tryz.func51,Tryz.ntmps51
  go_wp2;go_ret;exact cL.mk (if_pos (.inr h9)) rfl (ay w _)
 by_cases w1:who<1
 .go_enter Tryz.func51,Tryz.ntmps51
  go_wp2;go_ret;exact cL.mk ((if_neg (by dsimp only; omega)).trans (if_pos (.inl w1))) rfl (ay w _)
 by_cases w4:4<who
 .go_enter Tryz.func51,Tryz.ntmps51
  go_wp2;go_ret;exact cL.mk ((if_neg (by dsimp only; omega)).trans (if_pos (.inr w4))) rfl (ay w _)
 obtain⟨K,hK⟩:=Nm (decide (op<=6))
 obtain⟨N,hN⟩:∃N,decide (op=1\/op=2\/op=6)=N:=⟨_,rfl⟩
 obtain⟨A,hA⟩:=Nm (decide (7<=op))
 obtain⟨D,hD⟩:∃D,decide (op=3\/op=4\/op=6)=D:=⟨_,rfl⟩
 obtain⟨B,hB⟩:=Nm (fz ⟨op,who,key,new,typ,at_,stays,data,want⟩)
 have CF:=Hs (aB ⟨op,who,key,new,typ,at_,stays,data,want⟩=stage K key 999 (stage N new 999 (stage A at_ 7 (if B=true then 2 else GM ⟨op,who,key,new,typ,at_,stays,data,want⟩)))) (by
  rw[<-hK,<-hN,<-hA,<-hB]
  exact(if_neg (by dsimp only; omega)).trans (if_neg (by dsimp only; omega)))
 have HB:=Hx hB;have HD:=Hx hD;have HO:=Hx (show 1<=op/\op<=9 by omega);clear hB;go_enter Tryz.func51,Tryz.ntmps51
 go_upto_region 6 with fail;obtain⟨wb,Iz⟩:=Nn (w.alloc (.cells #[.int .i64 op,.int .i64 who,.int .i64 key,.int .i64 new,.int .i64 typ,.int .i64 at_,.bool stays,.string data,.string want] 39));go_cut [4] (λn wx=>n=.bool N/\wx=wb)
 case first=>as_aux_lemma =>
  subst Iz;clear hK
  rcases (by omega:op=1\/op=2\/op=3\/op=4\/op=5\/op=6\/op=7\/op=8\/op=9) with rfl | rfl | rfl | rfl | rfl | rfl | rfl | rfl | rfl
  all_goals
   simp at hN;subst hN;go_wp2;go_meet;exact⟨rfl,rfl⟩
 case rest =>
 obtain⟨rfl,e0⟩:=hcut;obtain rfl:=e0.trans Iz;clear e0 Iz wb;go_upto_region 8 with fail;obtain⟨wb,Iz⟩:=Nn (w.alloc (.cells #[.int .i64 op,.int .i64 who,.int .i64 key,.int .i64 new,.int .i64 typ,.int .i64 at_,.bool stays,.string data,.string want] 39));go_cut [6] (λn wx=>n=.bool D/\wx=wb)
 case first=>as_aux_lemma =>
  subst Iz;clear hK hN hA
  rcases (by omega:op=1\/op=2\/op=3\/op=4\/op=5\/op=6\/op=7\/op=8\/op=9) with rfl | rfl | rfl | rfl | rfl | rfl | rfl | rfl | rfl
  all_goals
   simp at hD;subst hD;go_wp2;go_meet;exact⟨rfl,rfl⟩
 case rest =>
 obtain⟨rfl,e0⟩:=hcut;obtain rfl:=e0.trans Iz;clear e0 Iz wb hK hN hA hD h1 h9 w1 w4;obtain⟨P,hP⟩:=Nm (!K && (key != 0));have HP:=Hx hP;go_upto_region 9 with fail;obtain⟨wb,Iz⟩:=Nn (w.alloc (.cells #[.int .i64 op,.int .i64 who,.int .i64 key,.int .i64 new,.int .i64 typ,.int .i64 at_,.bool stays,.string data,.string want] 39));go_cut [64] (λv wx=>v=.bool P/\wx=wb)
 case first=>as_aux_lemma =>
  subst Iz;cases K
  .have e1:(key != 0)=P:=by simpa using hP
   go_wp2;go_meet;exact⟨rfl,rfl⟩
  .obtain rfl:false=P:=by simpa using hP
   go_wp2;go_meet;exact⟨rfl,rfl⟩
 case rest =>
 obtain⟨rfl,e0⟩:=hcut;obtain rfl:=e0.trans Iz;clear e0 Iz wb hP;cases P
 rotate_left 1
 .as_aux_lemma =>
   go_wp2;go_ret;exact cL.mk (CF.out.trans (oq HP.out)) rfl (ay w _)
 by_cases P1:key<0
 .as_aux_lemma =>
   go_wp2;go_ret;exact cL.mk (CF.out.trans (dU (eH HP.out) (.inl P1))) rfl (ay w _)
 by_cases P2:999<key
 .as_aux_lemma =>
   go_wp2;go_ret;exact cL.mk (CF.out.trans (dU (eH HP.out) (.inr P2))) rfl (ay w _)
 replace CF:=Hx (CF.out.trans (eI (eH HP.out) (by omega)));obtain⟨R,hR⟩:=Nm (!N && (new != 0));have HR:=Hx hR;go_upto_region 13 with fail;obtain⟨wb,Iz⟩:=Nn (w.alloc (.cells #[.int .i64 op,.int .i64 who,.int .i64 key,.int .i64 new,.int .i64 typ,.int .i64 at_,.bool stays,.string data,.string want] 39));go_cut [79] (λv wx=>v=.bool R/\wx=wb)
 case first=>as_aux_lemma =>
  subst Iz;cases N
  .have e1:(new != 0)=R:=by simpa using hR
   go_wp2;go_meet;exact⟨rfl,rfl⟩
  .obtain rfl:false=R:=by simpa using hR
   go_wp2;go_meet;exact⟨rfl,rfl⟩
 case rest =>
 obtain⟨rfl,e0⟩:=hcut;obtain rfl:=e0.trans Iz;clear e0 Iz wb hR;cases R
 rotate_left 1
 .as_aux_lemma =>
   go_wp2;go_ret;exact cL.mk (CF.out.trans (oq HR.out)) rfl (ay w _)
 by_cases R1:new<0
 .as_aux_lemma =>
   go_wp2;go_ret;exact cL.mk (CF.out.trans (dU (eH HR.out) (.inl R1))) rfl (ay w _)
 by_cases R2:999<new
 .as_aux_lemma =>
   go_wp2;go_ret;exact cL.mk (CF.out.trans (dU (eH HR.out) (.inr R2))) rfl (ay w _)
 replace CF:=Hx (CF.out.trans (eI (eH HR.out) (by omega)));obtain⟨S,hS⟩:=Nm (!A && (at_ != 0));have HS:=Hx hS;go_upto_region 17 with fail;obtain⟨wb,Iz⟩:=Nn (w.alloc (.cells #[.int .i64 op,.int .i64 who,.int .i64 key,.int .i64 new,.int .i64 typ,.int .i64 at_,.bool stays,.string data,.string want] 39));go_cut [94] (λv wx=>v=.bool S/\wx=wb)
 case first=>as_aux_lemma =>
  subst Iz;cases A
  .have e1:(at_ != 0)=S:=by simpa using hS
   go_wp2;go_meet;exact⟨rfl,rfl⟩
  .obtain rfl:false=S:=by simpa using hS
   go_wp2;go_meet;exact⟨rfl,rfl⟩
 case rest =>
 obtain⟨rfl,e0⟩:=hcut;obtain rfl:=e0.trans Iz;clear e0 Iz wb hS;cases S
 rotate_left 1
 .as_aux_lemma =>
   go_wp2;go_ret;exact cL.mk (CF.out.trans (oq HS.out)) rfl (ay w _)
 by_cases S1:at_<0
 .as_aux_lemma =>
   go_wp2;go_ret;exact cL.mk (CF.out.trans (dU (eH HS.out) (.inl S1))) rfl (ay w _)
 by_cases S2:7<at_
 .as_aux_lemma =>
   go_wp2;go_ret;exact cL.mk (CF.out.trans (dU (eH HS.out) (.inr S2))) rfl (ay w _)
 replace CF:=Hx (CF.out.trans (eI (eH HS.out) (by omega)));clear P1 P2 R1 R2;obtain⟨M,hM⟩:=Nm (aU typ);have TM:=Hx (λw=>tm typ w);rw[hM]at TM;have HM:=Hx hM;clear hM;go_wp2_with fail;refine(TM.out _).mono ?_;rintro e w5 ⟨rfl,rfl⟩;clear S1 S2;go_upto_region 22 with fail;obtain⟨wb,Iz⟩:=Nn (w.alloc (.cells #[.int .i64 op,.int .i64 who,.int .i64 key,.int .i64 new,.int .i64 typ,.int .i64 at_,.bool stays,.string data,.string want] 39));go_cut [148] (λv wx=>v=.bool B/\wx=wb)
 case first=>as_aux_lemma =>
  subst Iz;obtain⟨T0,hT0⟩:=Nm (typ != 0);obtain⟨D0,hD0⟩:=Nm (data.toList != []);obtain⟨W0,hW0⟩:=Nm (want.toList != [])
  have hD1:(!data.toList.isEmpty)=D0:=by rw[<-hD0]; cases data.toList<;>rfl
  have JS:(!want.toList.isEmpty)=W0:=by rw[<-hW0]; cases want.toList<;>rfl
  obtain⟨G2,hG2⟩:=Nm (decide (2<op));obtain⟨L8,hL8⟩:=Nm (decide (op<8));obtain⟨L9,hL9⟩:=Nm (decide (op<9))
  have IY:=Hs ((((((D && !M) || (!D && T0)) || (G2 && stays)) || (L8 && D0)) || (L9 && W0))=B) (by
   have t0:T0=decide (typ≠0):=by rw[<-hT0]; by_cases h:typ=0<;>simp[h]
   have d0:D0=decide (data.size≠0):=hD1.symm.trans (fS _);have w0:W0=decide (want.size≠0):=JS.symm.trans (fS _);rw[<-HB.out,t0,d0,w0,<-HD.out,<-HM.out,<-hG2,<-hL8,<-hL9];unfold fz
   simp only[decide_not])
  cases D
  .cases T0
   .cases G2
    .skip
     obtain rfl:true=L8:=by rw[<-hL8]; exact(decide_eq_true (by have:=HO.out; have:=HD.out; simp at hG2 this; omega)).symm
     cases D0
     .skip
      obtain rfl:true=L9:=by rw[<-hL9]; exact(decide_eq_true (by have:=HO.out; simp at hG2 hL8; have:=HD.out; simp at this; omega)).symm
      cases W0
      .skip
       as_aux_lemma =>
        first | (obtain rfl:true=B:=IY.out)|(obtain rfl:false=B:=IY.out)
        go_wp2;go_meet;exact⟨rfl,rfl⟩
      .skip
       as_aux_lemma =>
        first | (obtain rfl:true=B:=IY.out)|(obtain rfl:false=B:=IY.out)
        go_wp2;go_meet;exact⟨rfl,rfl⟩
     .skip
      as_aux_lemma =>
       first | (obtain rfl:true=B:=IY.out)|(obtain rfl:false=B:=IY.out)
       go_wp2;go_meet;exact⟨rfl,rfl⟩
    .cases stays
     .skip
      cases L8
      .skip
       cases L9
       .skip
        as_aux_lemma =>
         first | (obtain rfl:true=B:=IY.out)|(obtain rfl:false=B:=IY.out)
         go_wp2;go_meet;exact⟨rfl,rfl⟩
       .skip
        cases W0
        .skip
         as_aux_lemma =>
          first | (obtain rfl:true=B:=IY.out)|(obtain rfl:false=B:=IY.out)
          go_wp2;go_meet;exact⟨rfl,rfl⟩
        .skip
         as_aux_lemma =>
          first | (obtain rfl:true=B:=IY.out)|(obtain rfl:false=B:=IY.out)
          go_wp2;go_meet;exact⟨rfl,rfl⟩
      .skip
       cases D0
       .skip
        obtain rfl:true=L9:=by rw[<-hL9]; exact(decide_eq_true (by have:=HO.out; simp at hG2 hL8; have:=HD.out; simp at this; omega)).symm
        cases W0
        .skip
         as_aux_lemma =>
          first | (obtain rfl:true=B:=IY.out)|(obtain rfl:false=B:=IY.out)
          go_wp2;go_meet;exact⟨rfl,rfl⟩
        .skip
         as_aux_lemma =>
          first | (obtain rfl:true=B:=IY.out)|(obtain rfl:false=B:=IY.out)
          go_wp2;go_meet;exact⟨rfl,rfl⟩
       .skip
        as_aux_lemma =>
         first | (obtain rfl:true=B:=IY.out)|(obtain rfl:false=B:=IY.out)
         go_wp2;go_meet;exact⟨rfl,rfl⟩
     .skip
      as_aux_lemma =>
       first | (obtain rfl:true=B:=IY.out)|(obtain rfl:false=B:=IY.out)
       go_wp2;go_meet;exact⟨rfl,rfl⟩
   .skip
    as_aux_lemma =>
     first | (obtain rfl:true=B:=IY.out)|(obtain rfl:false=B:=IY.out)
     go_wp2;go_meet;exact⟨rfl,rfl⟩
  .cases M
   .skip
    as_aux_lemma =>
     first | (obtain rfl:true=B:=IY.out)|(obtain rfl:false=B:=IY.out)
     go_wp2;go_meet;exact⟨rfl,rfl⟩
   .skip
    obtain rfl:true=G2:=by rw[<-hG2]; exact(decide_eq_true (by have:=HD.out; simp at this; omega)).symm
    cases stays
    .skip
     obtain rfl:true=L8:=by rw[<-hL8]; exact(decide_eq_true (by have:=HO.out; have:=HD.out; simp at hG2 this; omega)).symm
     cases D0
     .skip
      obtain rfl:true=L9:=by rw[<-hL9]; exact(decide_eq_true (by have:=HO.out; simp at hG2 hL8; have:=HD.out; simp at this; omega)).symm
      cases W0
      .skip
       as_aux_lemma =>
        first | (obtain rfl:true=B:=IY.out)|(obtain rfl:false=B:=IY.out)
        go_wp2;go_meet;exact⟨rfl,rfl⟩
      .skip
       as_aux_lemma =>
        first | (obtain rfl:true=B:=IY.out)|(obtain rfl:false=B:=IY.out)
        go_wp2;go_meet;exact⟨rfl,rfl⟩
     .skip
      as_aux_lemma =>
       first | (obtain rfl:true=B:=IY.out)|(obtain rfl:false=B:=IY.out)
       go_wp2;go_meet;exact⟨rfl,rfl⟩
    .skip
     as_aux_lemma =>
      first | (obtain rfl:true=B:=IY.out)|(obtain rfl:false=B:=IY.out)
      go_wp2;go_meet;exact⟨rfl,rfl⟩
 case rest =>
 obtain⟨rfl,e0⟩:=hcut;obtain rfl:=e0.trans Iz;clear e0 Iz wb;cases B
 rotate_left 1
 .as_aux_lemma =>
   go_wp2;go_ret;exact cL.mk (CF.out.trans (if_pos (by decide))) rfl (ay w _)
 replace CF:=Hx (CF.out.trans (if_neg (by decide)));by_cases l1:8<data.size
 .have l2:(8:Int)<(data.size:Int):=by omega
  go_wp2;go_ret;exact cL.mk (CF.out.trans (if_pos (.inl l1))) rfl (ay w _)
 by_cases l3:8<want.size
 .have l2:(8:Int)<(want.size:Int):=by omega
  go_wp2;go_ret;exact cL.mk (CF.out.trans (if_pos (.inr l3))) rfl (ay w _)
 replace CF:=Hx (CF.out.trans (if_neg (by dsimp only; omega)));have SD:=Hx (λw=>qz data w (by omega));have SW:=Hx (λw=>qz want w (by omega));obtain⟨b1,wC⟩:=Nm (ew data);obtain⟨b2,Ih⟩:=Nm (ew want);rw[wC]at SD;rw[Ih]at SW;have H1:=Hx wC;have H2:=Hx Ih;clear wC Ih;go_wp2_with fail;refine(SD.out _).mono ?_;rintro e w6 ⟨rfl,rfl⟩;go_wp2_with fail;refine(SW.out _).mono ?_;rintro e w7 ⟨rfl,rfl⟩;cases b1
 .go_wp2;go_ret;exact cL.mk (CF.out.trans (if_neg λh=>by have:=H1.out.symm.trans h.1; cases this)) rfl (ay w _)
 cases b2
 .go_wp2;go_ret;exact cL.mk (CF.out.trans (if_neg λh=>by have:=H2.out.symm.trans h.2; cases this)) rfl (ay w _)
 .go_wp2;go_ret;exact cL.mk (CF.out.trans (if_pos ⟨H1.out,H2.out⟩)) rfl (ay w _)
theorem pE{g:Gp}(hg:g.ok){tt at':Nat}(ht:tt<3){c:aw}(h:(g.r.getD tt Rp.zero).admitC at' c=g.r.getD tt Rp.zero):g.deliver tt at' c=g:=by
 unfold Gp.deliver
 split
 .rw[h,qD (by rw[hg.r3]; exact ht)]
 .rfl
theorem pV(g:Gp)(tt at':Nat)(c:aw)(tag:Int)(G:Nat)(w:World)(hg:g.ok)(hto:tt<3)(Iw:at'<8)(h:w.heap[G]?=some (.cells g.arr 97 (0,0))) : Calls Tryz.prog 64 #[.pointer (some ⟨G,0,none⟩),.agg (iP tt at' c tag)] w λe w'=>e=.returned (.bool (g.delivers tt c))/\PG w G (g.deliver tt at' c) w':=by
 have F0:=Hs (PG w G g w) (⟨ac.refl _ _,hg,h⟩);have lB:G<w.heap.size:=F0.out.lt
 have hti:(tt:Int)<3:=by omega
 have hai:(at':Int)<8:=by omega
 have Jx:tt<g.r.length:=by rw[hg.r3]; exact hto
 have JX:tt<g.u.length:=by rw[hg.u3]; exact hto
 have Lj:at'<g.r[tt].cells.length:=by rw[hg.c8 _ (List.getElem_mem Jx)]; exact Iw
 clear hg h;go_enter Tryz.func64,Tryz.ntmps64
 go_upto_region 1 with fail;obtain⟨w1,pX⟩:=Nn (w.alloc (.cells (iP tt at' c tag) 124));have Jf:=pX;rw[<-pX];clear pX;have F1:=Hs (PG w G g w1) (Jf▸F0.out.over (ay w _));have HMS:=Hs (w1.heap[w.heap.size]?=some (.cells (iP tt at' c tag) 124 (0,0))) (Jf▸heap_alloc_new w _);clear Jf F0;obtain⟨m0,m1,m2,m3,m4⟩:=fQ HMS.out;obtain⟨u0,-⟩:=ju F1.out.hG F1.out.ok JX;obtain⟨f0,-⟩:=ee F1.out.hG F1.out.ok Jx;obtain⟨⟨g0,g1,g2⟩,s0,s1,s2⟩:=ef F1.out.hG F1.out.ok Jx Lj;obtain⟨U,hU⟩:=Nm (g.u[tt]);obtain⟨F,hF⟩:=Nm (g.r[tt].floor);obtain⟨d,hd⟩:=Nm (g.r[tt].cells[at']);rw[hU]at u0;rw[hF]at f0;rw[hd]at g0 g1 g2;have HD:=Hs (g.delivers tt c=(U && decide (c.e=F))) (by unfold Gp.delivers; rw[<-hU,<-hF]; simp[Jx,JX])
 have HR:=Hs (g.r.getD tt Rp.zero=g.r[tt]/\(g.r.getD tt Rp.zero).floor=F/\(g.r.getD tt Rp.zero).get at'=d/\g.u.getD tt false=U) (by
  have e:g.r.getD tt Rp.zero=g.r[tt]:=by simp[Jx]
  refine⟨e,by rw[e,hF],by rw[e,Rp.get_at Lj,hd],by rw[<-hU]; simp[JX]⟩)
 have hq:=cH (Below.refl w1.heap.size w1)
 have MK:w.heap.size<w1.heap.size:=(Gl HMS.out)
 have JH:G<w1.heap.size:=by omega
 clear hU hF hd;go_cut [5] (λv wx=>v=.pointer (some ⟨G,tt*25,none⟩)/\Below w1.heap.size w1 wx)
 case first =>
  refine wp_region_quiet_below (by kernel_rfl) (by kernel_rfl) ?_
  repeat(go_big_quiet_step (fail))
  refine wpQuiet_nil ?_;rintro w' ⟨⟨dq,osq⟩,rfl⟩;go_wp2_with fail;go_meet;exact⟨rfl,below_regrown _ dq osq⟩
 case rest =>
 obtain⟨rfl,b2⟩:=hcut
 obtain⟨w2,rfl⟩:∃w2:World,w2=wc:=⟨_,rfl⟩
 have F2:=Hx (F1.out.over b2);have M2:=Hx ((b2.block _ MK).trans HMS.out);clear b2 hq m0 m1 m2 m3 m4 u0 f0 g0 g1 g2 s0 s1 s2 MK JH F1 HMS;obtain⟨B,hB⟩:=Nm (!U || decide (F≠c.e));have HB:=Hx hB;go_upto_region 2 with fail;go_cut [30] (λv wx=>v=.bool B/\Below w2.heap.size w2 wx)
 case first =>
  obtain⟨m0,m1,m2,m3,m4⟩:=fQ M2.out;obtain⟨u0,-⟩:=ju F2.out.hG F2.out.ok JX;obtain⟨f0,-⟩:=ee F2.out.hG F2.out.ok Jx;obtain⟨⟨g0,g1,g2⟩,s0,s1,s2⟩:=ef F2.out.hG F2.out.ok Jx Lj;have e1:=HR.out;rw[e1.1]at e1;obtain⟨-,e2,e3,e4⟩:=e1;rw[e2]at f0
  have u0':w2.cell? ⟨G,75+tt,none⟩=some (.bool U):=by rw[u0,<-e4]; simp[JX]
  have hq:=cH (Below.refl w2.heap.size w2)
  have MK:w.heap.size<w2.heap.size:=(Gl M2.out)
  have JH:G<w2.heap.size:=F2.out.lt;clear g0 g1 g2 s0 s1 s2 u0 e2 e3 e4 JX Lj;cases U
  .obtain rfl:true=B:=HB.out;refine wp_region_quiet_below (by kernel_rfl) (by kernel_rfl) ?_
   repeat(go_big_quiet_step (fail))
   refine wpQuiet_nil ?_;rintro w' ⟨⟨dq,osq⟩,rfl⟩;go_wp2_with fail;go_meet;exact⟨rfl,below_regrown _ dq osq⟩
  .have eb:(F != c.e)=B:=by rw[<-HB.out]; by_cases h:F=c.e<;>simp[h]
   refine wp_region_quiet_below (by kernel_rfl) (by kernel_rfl) ?_
   repeat(go_big_quiet_step (fail))
   refine wpQuiet_nil ?_;rintro w' ⟨⟨dq,osq⟩,rfl⟩;go_wp2_with fail;go_meet;exact⟨rfl,below_regrown _ dq osq⟩
 case rest =>
 obtain⟨rfl,b3⟩:=hcut
 obtain⟨w3,rfl⟩:∃w3:World,w3=wc:=⟨_,rfl⟩
 have F3:=Hx (F2.out.over b3);have M3:=Hx ((b3.block _ (Gl M2.out)).trans M2.out);clear b3 F2 M2 hB;cases B
 rotate_left 1
 .have HN:=Hs (g.deliver tt at' c=g/\g.delivers tt c=false) (by
   have hb:=HB.out;refine⟨?_,by rw[HD.out]; by_cases h:c.e=F<;>simp_all⟩;cases U
   .unfold Gp.deliver; rw[HR.out.2.2.2]; rfl
   .have:F≠c.e:=by simpa using hb
    exact pE F3.out.ok hto (if_neg (λh=>this (by rw[h.1,HR.out.2.1]))))
  go_wp2;go_ret;exact⟨by rw[HN.out.2]; rfl,by rw[HN.out.1]; exact F3.out⟩
 have HUF:=Hs (U=true/\F=c.e) (by
  have hb:=HB.out
  simpa using hb)
 have HDT:=Hs (g.delivers tt c=true) (by rw[HD.out,HUF.out.1,HUF.out.2]; simp);obtain⟨X,hX⟩:=Nm (aC c d);have RN:=Hx (λ(w:World)=>tY hX w)
 have HX:=Hs (g.deliver tt at' c=if X then g.setR tt ⟨g.r[tt].floor,g.r[tt].cells.set at' c⟩ else g) (by
  cases X
  .exact pE F3.out.ok hto (if_neg (λh=>by have:=h.2; rw[HR.out.2.2.1,hX]at this; cases this))
  .unfold Gp.deliver;rw[HR.out.2.2.2,HUF.out.1]
   have:(g.r.getD tt Rp.zero).admitC at' c=⟨g.r[tt].floor,g.r[tt].cells.set at' c⟩:=by unfold Rp.admitC;rw[if_pos ⟨by rw[HR.out.2.1,HUF.out.2],by rw[HR.out.2.2.1,hX]⟩,HR.out.1]
   rw[this])
 clear hX HB HD;obtain⟨m0,m1,m2,m3,m4⟩:=fQ M3.out;obtain⟨⟨g0,g1,g2⟩,s0,s1,s2⟩:=ef F3.out.hG F3.out.ok Jx Lj;have e1:=HR.out;rw[e1.1]at e1;obtain⟨-,-,e3,-⟩:=e1;rw[Rp.get_at Lj]at e3;rw[e3]at g0 g1 g2;have hq:=cH (Below.refl w3.heap.size w3)
 have MK:w.heap.size<w3.heap.size:=(Gl M3.out)
 have JH:G<w3.heap.size:=F3.out.lt;clear e3 s0 s1 s2;go_upto_region 4 with fail;go_cut [6] (λv wx=>v=.bool X/\Below w3.heap.size w3 wx)
 case first =>
  refine wp_region_quiet_below (by kernel_rfl) (by kernel_rfl) ?_
  repeat(go_big_quiet_step (exact Calls.regrown_of (RN.out _)))
  refine wpQuiet_nil ?_;rintro w' ⟨⟨dq,osq⟩,rfl⟩;go_wp2_with fail;go_meet;exact⟨rfl,below_regrown _ dq osq⟩
 case rest =>
 obtain⟨rfl,b4⟩:=hcut
 obtain⟨w4,rfl⟩:∃w4:World,w4=wc:=⟨_,rfl⟩
 have F4:=Hx (F3.out.over b4);have M4:=Hx ((b4.block _ MK).trans M3.out);clear b4 hq m0 m1 m2 m3 m4 g0 g1 g2 MK JH F3 M3;cases X
 .go_wp2;go_ret;exact⟨by rw[HDT.out]; rfl,by rw[HX.out]; exact F4.out⟩
 .obtain⟨m0,m1,m2,m3,m4⟩:=fQ M4.out;obtain⟨⟨g0,g1,g2⟩,s0,s1,s2⟩:=ef F4.out.hG F4.out.ok Jx Lj
  have e:g.put1 at' c (tt:Int)=g.setR tt ⟨g.r[tt].floor,g.r[tt].cells.set at' c⟩:=by simp[Gp.put1,Jx]
  have FS:=Hx (F4.out.setC c (i:=tt) (k:=at') hto Iw);rw[e]at FS;clear e;go_wp2;go_region;go_wp2;go_ret;exact⟨by rw[HDT.out]; rfl,by rw[HX.out]; exact FS.out.1.over (Below.refl _ _).drew⟩
section
variable {P:Program} {ops:Array Oper} {rest:List Oper} {o:Oper} {a:Act} {C:World->Prop} {Q:Act->Prop}
theorem ue(ty:TypeId)(x:Operand)(ho:o.op=.load ty x)(h:Region.wanted o (yielded ops a.tmps)=true/\∃(b off:Nat) (cs:Array Value) (d:TypeDesc),a.eval x=.pointer (some ⟨b,off,none⟩)/\(∀w,C w->w.rangeAt b off cs.toList)/\P.underlying ty=some d/\d.isRow=true/\(P.info? ty).map (·.size)=some cs.size/\wpQuiet P ops C Q rest (a.put o.dst (.agg cs))):wpQuiet P ops C Q (o :: rest) a:=by
 obtain⟨hw,b,off,cs,d,h1,h2,h3,h4,h5,h6⟩:=h;unfold wpQuiet;rw[if_pos hw];refine⟨.agg cs,λw hC=>?_,h6⟩;have:=run_loadVar_mid (P:=P) w b off ty cs.toList d (h2 w hC) h3 h4 (by simpa using h5);unfold Oper.quietAt execOp;simp only[ho,h1,Instr.loadAt,Instr.sureAddr,Sem.run_bind,Sem.run_pure,Result.andThen_ok,this];exact⟨rfl,by simp⟩
theorem Gq(op:BinOp)(t u:TypeId)(x y:Operand)(ho:o.op=.binOp op t x y u)(h:Region.wanted o (yielded ops a.tmps)=true/\∃(xs ys:Array Value) (v:Value),a.eval x=.agg xs/\a.eval y=.agg ys/\P.eqGuardType P.depth t=false/\(∀w,(binOp op t (.agg xs) (.agg ys)).run P w=.ok v w)/\wpQuiet P ops C Q rest (a.put o.dst v)):wpQuiet P ops C Q (o :: rest) a:=by
 obtain⟨hw,xs,ys,v,h1,h2,h3,h4,h5⟩:=h;exact sZ hw op t u x y ho xs ys h1 h2 h3 v h4 h5
end
end
section
open List (getElem_toArray getElem_cons_zero getElem_cons_succ setIfInBounds_toArray set_cons_zero set_cons_succ)
open Go.RowKit Go.Sort
theorem zo:Tryz.prog.eqGuardType Tryz.prog.depth 63=false:=by kernel_rfl
theorem o6(l:List aw)(h:l.length=8)(w:World):(binOp .neq 63 (.agg (flat l).toArray) (.agg (flat l).toArray)).run Tryz.prog w=.ok (.bool false) w:=by rw[run_neq_struct,Ce 9997 l l h h]; simp
theorem qV{w:World}{N i:Nat}{g:Gp}{T:TypeId}(h:w.heap[N]?=some (.cells g.arr T (0,0)))(hg:g.ok)(hi:i<g.r.length):w.rangeAt N (i*25+1) (flat g.r[i].cells).toArray.toList:=λj v hv=>by have:=(eO h hg hi).1 (j+1) v (by unfold Rp.arr; simpa using hv);rw[<-this]; congr 2; omega
theorem fy{w w':World}{k:Nat}{o:Obj}(h:w.heap[k]?=some o)(b:Below w.heap.size w w'):w'.heap[k]?=some o:=(b.block _ (Gl h)).trans h
theorem uQ(g:Gp)(G:Nat)(w:World)(hg:g.ok)(h:w.heap[G]?=some (.cells g.arr 97 (0,0))) : Calls Tryz.prog 27 #[.agg g.arr,.pointer (some ⟨G,0,none⟩)] w λe w'=>e=.returned (.bool true)/\Below w.heap.size w w':=by
 have OK:=Hx hg;have HG:=Hx h
 have lB:G<w.heap.size:=(Gl h)
 clear hg h;go_enter Tryz.func27,Tryz.ntmps27
 go_upto_region 1 with fail;obtain⟨w1,pX⟩:=Nn (w.alloc (.cells g.arr 69));rw[<-pX];have B1:=Hs (Below w.heap.size w w1) (pX▸ay w _);have A1:=Hs (w1.heap[w.heap.size]?=some (.cells g.arr 69 (0,0))) (pX▸heap_alloc_new w _);have G1:=Hx (fy HG.out B1.out);clear pX HG;go_wp2;go_loopw [5] (λi wr=>∃k:Nat,k<=3/\i=.int .i64 k/\Below w1.heap.size w1 wr) (λi _=>3 - (intOf i).toNat)
 case atStart=>exact⟨0,by omega,rfl,Below.refl _ _⟩
 case round =>
  obtain⟨k,hk,rfl,hb⟩:=hrel;have HB:=Hx hb;clear hb;by_cases Jo:k<3
  .have IE:k<g.r.length:=by rw[OK.out.r3]; exact Jo
   have Lx:k<g.u.length:=by rw[OK.out.u3]; exact Jo
   have AR:=Hx (fy A1.out HB.out);have GR:=Hx (fy G1.out HB.out);obtain⟨u0,-⟩:=ju AR.out OK.out Lx;obtain⟨f0,-⟩:=ee AR.out OK.out IE;obtain⟨u1,-⟩:=ju GR.out OK.out Lx;obtain⟨f1,-⟩:=ee GR.out OK.out IE;obtain⟨U,hU⟩:=Nm (g.u[k]);obtain⟨F,hF⟩:=Nm (g.r[k].floor);rw[hU]at u0 u1;rw[hF]at f0 f1;obtain⟨C,hC⟩:=Nm (g.r[k].cells);have C8:=Hs (C.length=8) (hC▸OK.out.c8 _ (List.getElem_mem IE));have QA:=Hx (λd os=>show(World.rangeAt _ _ _ _:Prop) from hC▸qV (fy AR.out (below_regrown wr d os)) OK.out IE);have QG:=Hx (λd os=>show(World.rangeAt _ _ _ _:Prop) from hC▸qV (fy GR.out (below_regrown wr d os)) OK.out IE);have ZC:=Hx (mw C8.out)
   have hki:(k:Int)<3:=by omega
   have NE:=o6 C C8.out;have hgu:=zo
   have hUU:(U != U)=false:=by simp
   have hFF:(F != F)=false:=by simp
   have hq:=cH (Below.refl wr.heap.size wr)
   have MK:w.heap.size<wr.heap.size:=(Gl AR.out)
   have JH:G<wr.heap.size:=by omega
   clear hU hF hC IE Lx;go_upto_region 4 with fail;go_cut [50] (λv wx=>v=.bool false/\Below wr.heap.size wr wx)
   case first =>
    refine wp_region_quiet_below (by kernel_rfl) (by kernel_rfl) ?_
    repeat(first|((with_reducible refine ue 63 _ rfl ?_); refine⟨by rfl,w.heap.size,k*25+1,(flat C).toArray,_,rfl,(by rintro w' ⟨⟨d,os⟩,rfl⟩; exact QA.out d os),cC.1,rfl,(by rw[cC.2,ZC.out]),?_⟩; simp only[Act.put,setIfInBounds_toArray,set_cons_zero,set_cons_succ])|((with_reducible refine ue 63 _ rfl ?_); refine⟨by rfl,G,k*25+1,(flat C).toArray,_,rfl,(by rintro w' ⟨⟨d,os⟩,rfl⟩; exact QG.out d os),cC.1,rfl,(by rw[cC.2,ZC.out]),?_⟩; simp only[Act.put,setIfInBounds_toArray,set_cons_zero,set_cons_succ])|((with_reducible refine Gq .neq 63 _ _ _ rfl ?_); refine⟨by rfl,(flat C).toArray,(flat C).toArray,.bool false,rfl,rfl,hgu,NE,?_⟩; simp only[Act.put,setIfInBounds_toArray,set_cons_zero,set_cons_succ]) | go_big_quiet_step (fail))
    refine wpQuiet_nil ?_;rintro w' ⟨⟨dq,osq⟩,rfl⟩;go_wp2_with fail;go_meet;exact⟨rfl,below_regrown _ dq osq⟩
   case rest =>
    obtain⟨rfl,b4⟩:=hcut;have NA:=Hx (HB.out.trans (b4.mono HB.out.size));clear b4;go_wp2;go_roundw
    case rel=>exact⟨k+1,by omega,by go_num,NA.out⟩
    case measure=>simp[intOf]; omega
  .obtain rfl:k=3:=by omega
   go_wp2;go_ret;exact⟨rfl,B1.out.trans (HB.out.mono B1.out.size)⟩
