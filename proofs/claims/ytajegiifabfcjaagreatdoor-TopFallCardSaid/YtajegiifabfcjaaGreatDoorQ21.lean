/-
  Contract: the document's Ordered.
-/
import Derived.Test.YtajegiifabfcjaaGreatDoorQ20
import Derived.Deep.CutBlock
import Derived.Deep.DeepCutAuto
import Derived.BigQuiet
namespace Go.Proofs.YtajegiifabfcjaaGreatDoor
open Go.RowKit Go.Sort
set_option linter.unusedVariables false in
set_option maxRecDepth 100000 in
set_option maxHeartbeats 40000000 in
theorem rordered_any (s:St) (a:Option Addr) (cap:Nat) (c:Cmd) (w:World) (hr:StR w s a) (hl:LFo s.regs 40) (hw:0≤c.who∧c.who≤1000) (h1:1≤c.op) (hn:0≤c.new) (hg:0≤s.gen∧s.gen≤1000000000) :
  Calls Tryz.prog 37 #[stV s a cap,cmdV c] w (OrdPost a (rdo s c) w):=by
 have HR:=Lib.hid hr
 have HL:=Lib.hid hl
 have HP:=Lib.hid hr.rep
 clear hr hl
 go_enter Tryz.func37,Tryz.ntmps37
 go_upto_region 1 with fail
 obtain ⟨w1,hw1⟩:∃ w1,w1=((w.alloc (.cells #[.int .i64 s.gen,.slice a s.regs.length cap,.int .i64 s.typ,.int .i64 s.holder,.bool s.stays] 35)).alloc (.cells #[.int .i64 c.op,.int .i64 c.who,.int .i64 c.key,.int .i64 c.new,.int .i64 c.typ,.int .i64 c.at',.bool c.stays,.string c.data,.string c.want] 37)).alloc (.cells #[.int .i64 0,.slice none 0 0,.int .i64 0,.int .i64 0,.bool false] 35):=⟨_,rfl⟩
 rw [← hw1]
 have B1:=Lib.hid (show OB w s a cap c w1 from hw1▸⟨bal3' w _ _ _,(heap3 w _ _ _).1,(heap3 w _ _ _).2.1,(heap3 w _ _ _).2.2⟩)
 clear hw1
 obtain ⟨d0,d1,d2,d3,d4⟩:=B1.out.s5
 obtain ⟨k0,k1,k2,k3,k4,k6⟩:=B1.out.c7
 go_wp2_with fail
 refine (rkey_any s a cap c.who _ (HR.out.below B1.out.below)).mono ?_
 rintro e w2 ⟨rfl,b2⟩
 obtain ⟨Ky,hKy⟩:∃ Ky,keyOf s.regs c.who=Ky:=⟨_,rfl⟩
 rw [hKy]
 have HKY:=Lib.hid hKy
 have B2:=Lib.hid (B1.out.over b2)
 clear b2 hKy B1
 clear d0 d1 d2 d3 d4 k0 k1 k2 k3 k4 k6
 obtain ⟨d0,d1,d2,d3,d4⟩:=B2.out.s5
 obtain ⟨k0,k1,k2,k3,k4,k6⟩:=B2.out.c7
 go_wp2_with fail
 refine (rholds_any s a cap c.who _ (HR.out.below B2.out.below)).mono ?_
 rintro e w3 ⟨rfl,b3⟩
 obtain ⟨Hd,hHd⟩:∃ Hd,holds s c.who=Hd:=⟨_,rfl⟩
 rw [hHd]
 have HHD:=Lib.hid hHd
 have B3:=Lib.hid (B2.out.over b3)
 clear b3 hHd B2
 clear d0 d1 d2 d3 d4 k0 k1 k2 k3 k4 k6
 obtain ⟨d0,d1,d2,d3,d4⟩:=B3.out.s5
 obtain ⟨k0,k1,k2,k3,k4,k6⟩:=B3.out.c7
 by_cases h6:6<c.op
 ·have P1:=Lib.hid (show rdo s c=(St.zero,[],2) from by unfold rdo; rw [if_pos h6])
  obtain ⟨⟨z0,z1,z2,z3,z4⟩,y0,y1,y2,y3,y4⟩:=B3.out.z5
  go_wp2
  refine bodyPost_ret (v:=.tuple #[.agg #[.int .i64 0,.slice none 0 0,.int .i64 0,.int .i64 0,.bool false],.slice none 0 0,.int .i64 2]) (results_r3 Tryz.results37 _ _ (w.heap.size+1+1) 35 #[.int .i64 0,.slice none 0 0,.int .i64 0,.int .i64 0,.bool false] _ (.slice none 0 0) (.int .i64 2) rfl rfl rfl (put5_at B3.out.hZ St.zero none 0) st_row.1 rfl st_row.2) rfl ?_
  exact ord_err P1.out B3.out.below (put5_keeps _ _ St.zero none 0)
 have HP0:=Lib.hid (show rdo s c=(if (c.op=1∧Ky≠c.key)∨(2<c.op∧(c.key=0∨Ky≠c.key)) then (St.zero,[],4)
  else match (racts s c).1 with
   | none=>(St.zero,[],(racts s c).2)
   | some x=>if c.op≠3∧c.op≠4 then (x.1.next,x.2,0) else (x.1,x.2,0)) from by unfold rdo; rw [if_neg h6,HKY.out]; rfl)
 obtain ⟨D,hD⟩:∃ D,decide ((c.op=1∧Ky≠c.key)∨(2<c.op∧(c.key=0∨Ky≠c.key)))=D:=⟨_,rfl⟩
 have HD:=Lib.hid hD
 clear hD
 go_upto_region 5 with fail
 go_cut [52] (fun v wx=>v=.bool D∧wx=w3)
 case first=>as_aux_lemma =>
  by_cases h1:c.op=1
  ·have h1b:(c.op == 1)=true:=by simp [h1]
   have h2b:decide (2<c.op)=false:=by simp [h1]
   have PD:=Lib.hid (show D=(Ky != c.key) from by rw [← HD.out,Bool.eq_iff_iff]; simp [h1])
   clear h1 h6
   cases hk:(Ky != c.key)
   ·rw [hk] at PD
    go_wp2
    go_meet
    exact ⟨by rw [PD.out],rfl⟩
   ·rw [hk] at PD
    go_wp2
    go_meet
    exact ⟨by rw [PD.out],rfl⟩
  ·have h1b:(c.op == 1)=false:=by simp [h1]
   by_cases h2:2<c.op
   ·have PD:=Lib.hid (show D=((c.key == 0) || (Ky != c.key)) from by rw [← HD.out,Bool.eq_iff_iff]; simp [h1,h2])
    clear h1 h6
    cases hz:(c.key == 0)
    ·cases hk:(Ky != c.key)
     ·rw [hk,hz] at PD
      go_wp2
      go_meet
      exact ⟨by rw [PD.out]; rfl,rfl⟩
     ·rw [hk,hz] at PD
      go_wp2
      go_meet
      exact ⟨by rw [PD.out]; rfl,rfl⟩
    ·rw [hz] at PD
     go_wp2
     go_meet
     exact ⟨by rw [PD.out]; rfl,rfl⟩
   ·have PD:=Lib.hid (show D=false from by rw [← HD.out]; simp [h1,h2])
    clear h1 h6
    go_wp2
    go_meet
    exact ⟨by rw [PD.out],rfl⟩
 case rest =>
 obtain ⟨rfl,rfl⟩:=hcut
 cases D
 rotate_left 1
 ·as_aux_lemma =>
   have HP1:=Lib.hid (HP0.out.trans (if_pos (by simpa using HD.out)))
   obtain ⟨⟨z0,z1,z2,z3,z4⟩,y0,y1,y2,y3,y4⟩:=B3.out.z5
   go_wp2
   refine bodyPost_ret (v:=.tuple #[.agg #[.int .i64 0,.slice none 0 0,.int .i64 0,.int .i64 0,.bool false],.slice none 0 0,.int .i64 4]) (results_r3 Tryz.results37 _ _ (w.heap.size+1+1) 35 #[.int .i64 0,.slice none 0 0,.int .i64 0,.int .i64 0,.bool false] _ (.slice none 0 0) (.int .i64 4) rfl rfl rfl (put5_at B3.out.hZ St.zero none 0) st_row.1 rfl st_row.2) rfl ?_
   exact ord_err HP1.out B3.out.below (put5_keeps _ _ St.zero none 0)
 have HP1:=Lib.hid (HP0.out.trans (if_neg (by simpa using HD.out)))
 clear HP0 HD
 go_upto_region 8 with fail
 obtain ⟨w4,hw4⟩:∃ w4,w4=wc.alloc (.cells #[.int .i64 s.gen,.slice a s.regs.length cap,.int .i64 s.typ,.int .i64 s.holder,.bool s.stays] 35):=⟨_,rfl⟩
 rw [← hw4]
 have B4:=Lib.hid (show OB w s a cap c w4 from hw4▸B3.out.over (bal wc _))
 have hNT:w.heap.size+1+1<wc.heap.size:=B3.out.lt
 have T4:=Lib.hid (show TR w.heap.size a s.regs w4 wc.heap.size s a cap w4 from ⟨by omega,by rw [hw4]; simp,HP.out.below B4.out.below (Nat.le_refl _),.inl ⟨rfl,Nat.le_refl _⟩,hw4▸heap_alloc_new _ _,HR.out.below B4.out.below,Keeps.refl _ _⟩)
 clear hw4 B3
 clear d0 d1 d2 d3 d4 k0 k1 k2 k3 k4 k6
 obtain ⟨T,hTT⟩:∃ T,wc.heap.size=T:=⟨_,rfl⟩
 rw [hTT] at T4 hNT
 rw [hTT]
 clear hTT
 obtain ⟨d0,d1,d2,d3,d4⟩:=B4.out.s5
 obtain ⟨k0,k1,k2,k3,k4,k6⟩:=B4.out.c7
 obtain ⟨⟨t0,t1,t2,t3,t4⟩,p0,p1,p2,p3,p4⟩:=T4.out.t5
 have hT4:T<w4.heap.size:=T4.out.tl
 have h44:w.heap.size+1+1<w4.heap.size:=B4.out.lt
 have L40:s.regs.length≤40:=HL.out.len
 go_upto_block 0 with fail
 go_cut [10] (fun v wx=>∃ r lt a3 c3,(racts s c).1=some (r,lt)∧TR w.heap.size a s.regs w4 T r a3 c3 wx∧OwnT w4.heap.size wx v lt)
 case first =>
  obtain ⟨B12,hB12⟩:∃ B,((c.op == 1) || (c.op == 2))=B:=⟨_,rfl⟩
  obtain ⟨E1,hE1⟩:∃ B,(c.op == 1)=B:=⟨_,rfl⟩
  go_upto_if 57 with fail
  go_cut [57] (fun v wx=>v=.bool B12∧wx=w4)
  case first=>as_aux_lemma =>
   cases E1
   ·have e2:(c.op == 2)=B12:=by rw [← hB12,hE1]; rfl
    clear hB12
    go_wp2
    go_meet
    exact ⟨rfl,rfl⟩
   ·obtain rfl:true=B12:=by rw [← hB12,hE1]; rfl
    go_wp2
    go_meet
    exact ⟨rfl,rfl⟩
  case rest =>
  obtain ⟨rfl,e0⟩:=hcut
  obtain rfl:=e0.symm
  clear hE1 E1
  have hop:(c.op=1∨c.op=2)∨c.op=3∨c.op=4∨c.op=5∨c.op=6:=by omega
  rcases hop with h | h | h | h | h
  ·as_aux_lemma =>
    obtain rfl:true=B12:=by rw [← hB12]; rcases h with h | h <;> simp [h]
    have HRA:=Lib.hid (show (racts s c).1=some (rregister s c) from by unfold racts; rw [if_pos (by omega)])
    obtain ⟨LL,hLL⟩:∃ LL,withL s.regs c.who c.new=LL:=⟨_,rfl⟩
    have HRG:=Lib.hid (show rregister s c=(if c.new=0∧Hd=true then
      if s.typ<7 then (⟨s.gen,LL,0,0,c.stays⟩,if 4<s.typ then toldL (othersL c.who LL) 2 else [])
      else if LL.length=0 then (⟨s.gen,LL,0,0,c.stays⟩,[]) else (⟨s.gen,LL,s.typ,s.holder,c.stays⟩,[])
     else (⟨s.gen,LL,s.typ,s.holder,c.stays⟩,[])) from by
     unfold rregister; rw [← hLL,← HHD.out]; rfl)
    have WC:=Lib.hid (rwith_x s.gen s.regs s.typ s.holder s.stays a cap c.who c.new w4 (HR.out.below B4.out.below) (by omega) hn HL.out.sort LL hLL)
    have LLL:=Lib.hid (show LL.length≤41 from by rw [← hLL]; have:=with_len s.regs c.who c.new; omega)
    clear h hLL h6
    go_wp2_with fail
    refine WC.out.mono ?_
    rintro e w5 ⟨a5,c5,rfl,hs5,b5,lo5⟩
    have T5:=Lib.hid (T4.out.over b5)
    have B5:=Lib.hid (B4.out.over b5)
    have S5:=Lib.hid hs5
    have LO:=Lib.hid (show ∀ b o,a5=some ⟨b,o,none⟩→w4.heap.size≤b from lo5)
    clear WC b5 hs5 lo5 T4
    clear d0 d1 d2 d3 d4 k0 k1 k2 k3 k4 k6
    clear t0 t1 t2 t3 t4 p0 p1 p2 p3 p4
    obtain ⟨d0,d1,d2,d3,d4⟩:=B5.out.s5
    obtain ⟨k0,k1,k2,k3,k4,k6⟩:=B5.out.c7
    obtain ⟨⟨t0,t1,t2,t3,t4⟩,p0,p1,p2,p3,p4⟩:=T5.out.t5
    go_upto_region 14 with fail
    obtain ⟨w6,hw6⟩:∃ w6,w6=(put5 w5 T ⟨s.gen,LL,s.typ,s.holder,s.stays⟩ a5 c5).setCell ⟨T,4,none⟩ (.bool c.stays):=⟨_,rfl⟩
    have T6:=Lib.hid (show TR w.heap.size a s.regs w4 T ⟨s.gen,LL,s.typ,s.holder,c.stays⟩ a5 c5 w6 from by
     rw [hw6]
     exact T5.out.next (keeps_set (put5_keeps _ _ _ _ _) _ _) (block_setCell (put5_at T5.out.hT _ _ _) _) (str_any S5.out _ rfl) (.inr LO.out))
    have B6:=Lib.hid (show OB w s a cap c w6 from T6.out.ob B4.out hNT)
    unfold put5 at hw6
    rw [← hw6]
    clear hw6 T5 S5
    clear d0 d1 d2 d3 d4 k0 k1 k2 k3 k4 k6
    clear t0 t1 t2 t3 t4 p0 p1 p2 p3 p4
    clear B5
    obtain ⟨d0,d1,d2,d3,d4⟩:=B6.out.s5
    obtain ⟨k0,k1,k2,k3,k4,k6⟩:=B6.out.c7
    obtain ⟨⟨t0,t1,t2,t3,t4⟩,p0,p1,p2,p3,p4⟩:=T6.out.t5
    dsimp only at t0 t1 t2 t3 t4
    by_cases hz:c.new=0
    rotate_left 1
    ·have e1:(c.new == 0)=false:=by simp [hz]
     have E:=Lib.hid (show rregister s c=(⟨s.gen,LL,s.typ,s.holder,c.stays⟩,[]) from by rw [HRG.out,if_neg (fun h=>hz h.1)])
     clear hz
     go_wp2
     go_meet
     exact ⟨_,_,_,_,by rw [HRA.out,E.out],T6.out,own_none _ _⟩
    have e1:(c.new == 0)=true:=by simp [hz]
    cases Hd
    ·have E:=Lib.hid (show rregister s c=(⟨s.gen,LL,s.typ,s.holder,c.stays⟩,[]) from by rw [HRG.out,if_neg (fun h=>by cases h.2)])
     clear hz
     go_wp2
     go_meet
     exact ⟨_,_,_,_,by rw [HRA.out,E.out],T6.out,own_none _ _⟩
    have E0:=Lib.hid (HRG.out.trans (if_pos ⟨hz,rfl⟩))
    clear HRG hz
    by_cases h7:s.typ<7
    ·have E1:=Lib.hid (E0.out.trans (if_pos h7))
     clear E0
     go_wp2_with fail
     refine (freed_any s.gen LL s.typ s.holder c.stays a5 c5 _).mono ?_
     rintro e w7 ⟨rfl,b7⟩
     have T7:=Lib.hid (T6.out.over b7)
     have B7:=Lib.hid (B6.out.over b7)
     have S6:=Lib.hid T6.out.str
     clear b7 T6
     clear d0 d1 d2 d3 d4 k0 k1 k2 k3 k4 k6
     clear t0 t1 t2 t3 t4 p0 p1 p2 p3 p4
     clear B6
     obtain ⟨d0,d1,d2,d3,d4⟩:=B7.out.s5
     obtain ⟨k0,k1,k2,k3,k4,k6⟩:=B7.out.c7
     obtain ⟨⟨t0,t1,t2,t3,t4⟩,p0,p1,p2,p3,p4⟩:=T7.out.t5
     go_upto_region 17 with fail
     obtain ⟨w8,hw8⟩:∃ w8,w8=put5 w7 T ⟨s.gen,LL,0,0,c.stays⟩ a5 c5:=⟨_,rfl⟩
     have T8:=Lib.hid (show TR w.heap.size a s.regs w4 T ⟨s.gen,LL,0,0,c.stays⟩ a5 c5 w8 from by
      rw [hw8]
      exact T7.out.put _ _ _ (str_any T7.out.str _ rfl) (.inr LO.out))
     have B8:=Lib.hid (show OB w s a cap c w8 from T8.out.ob B4.out hNT)
     unfold put5 at hw8
     rw [← hw8]
     clear hw8 T7
     clear d0 d1 d2 d3 d4 k0 k1 k2 k3 k4 k6
     clear t0 t1 t2 t3 t4 p0 p1 p2 p3 p4
     clear B7
     obtain ⟨d0,d1,d2,d3,d4⟩:=B8.out.s5
     obtain ⟨k0,k1,k2,k3,k4,k6⟩:=B8.out.c7
     obtain ⟨⟨t0,t1,t2,t3,t4⟩,p0,p1,p2,p3,p4⟩:=T8.out.t5
     dsimp only at t0 t1 t2 t3 t4
     by_cases h4:4<s.typ
     ·have E2:=Lib.hid (show rregister s c=(⟨s.gen,LL,0,0,c.stays⟩,toldL (othersL c.who LL) 2) from by rw [E1.out,if_pos h4])
      clear E1
      obtain ⟨O,hO⟩:∃ O,othersL c.who LL=O:=⟨_,rfl⟩
      have hol:O.length≤100:=by have:=others_len c.who LL LL.length; rw [List.take_length,hO] at this; have:=LLL.out; omega
      rw [hO] at E2
      have OC:=Lib.hid (rothers_x s.gen LL 0 0 c.stays a5 c5 c.who w8 T8.out.str (by have:=LLL.out; omega) O hO)
      clear hO
      go_wp2_with fail
      refine OC.out.mono ?_
      rintro e w9 ⟨a9,c9,rfl,hi9,b9⟩
      have T9:=Lib.hid (T8.out.over b9)
      clear OC T8
      go_wp2_with fail
      refine (rtold_any O a9 c9 2 _ hol hi9).mono ?_
      rintro e w10 ⟨v10,rfl,ho10,b10⟩
      have T10:=Lib.hid (T9.out.over b10)
      have O10:=Lib.hid (ho10.mono (show w4.heap.size≤w9.heap.size from T9.out.keeps.size))
      clear hi9 b9 ho10 b10 T9
      go_wp2
      go_meet
      exact ⟨_,_,_,_,by rw [HRA.out,E2.out],T10.out,O10.out⟩
     ·have E2:=Lib.hid (show rregister s c=(⟨s.gen,LL,0,0,c.stays⟩,[]) from by rw [E1.out,if_neg h4])
      go_wp2
      go_meet
      exact ⟨_,_,_,_,by rw [HRA.out,E2.out],T8.out,own_none _ _⟩
    have E1:=Lib.hid (E0.out.trans (if_neg h7))
    clear E0
    by_cases hl0:LL.length=0
    ·have E2:=Lib.hid (show rregister s c=(⟨s.gen,LL,0,0,c.stays⟩,[]) from by rw [E1.out,if_pos hl0])
     have q0:((LL.length:Int) == 0)=true:=by simp [hl0]
     clear E1 hl0
     go_wp2_with fail
     refine (freed_any s.gen LL s.typ s.holder c.stays a5 c5 _).mono ?_
     rintro e w7 ⟨rfl,b7⟩
     have T7:=Lib.hid (T6.out.over b7)
     clear b7 T6
     clear d0 d1 d2 d3 d4 k0 k1 k2 k3 k4 k6
     clear t0 t1 t2 t3 t4 p0 p1 p2 p3 p4
     clear B6
     obtain ⟨⟨t0,t1,t2,t3,t4⟩,p0,p1,p2,p3,p4⟩:=T7.out.t5
     have T8:=Lib.hid (T7.out.put ⟨s.gen,LL,0,0,c.stays⟩ a5 c5 (str_any T7.out.str _ rfl) (.inr LO.out))
     unfold put5 at T8
     go_wp2
     go_meet
     exact ⟨_,_,_,_,by rw [HRA.out,E2.out],T8.out,own_none _ _⟩
    ·have E2:=Lib.hid (show rregister s c=(⟨s.gen,LL,s.typ,s.holder,c.stays⟩,[]) from by rw [E1.out,if_neg hl0])
     have q0:((LL.length:Int) == 0)=false:=by rw [beq_eq_false_iff_ne]; omega
     clear E1 hl0
     go_wp2
     go_meet
     exact ⟨_,_,_,_,by rw [HRA.out,E2.out],T6.out,own_none _ _⟩
  ·as_aux_lemma =>
    obtain rfl:false=B12:=by rw [← hB12]; simp [h]
    have hop3:(c.op == 3)=true:=by simp [h]
    have HRA:=Lib.hid (show racts s c=(if s.typ=0 then (some (s.rtake c.typ c.who,[]),0) else if Hd=false∨s.typ≠c.typ then (none,4) else (some (s,[]),0)) from by
     unfold racts; rw [if_neg (by omega),if_pos h,HHD.out])
    have HP2:=Lib.hid (show rdo s c=match (racts s c).1 with | none=>(St.zero,[],(racts s c).2) | some x=>if c.op≠3∧c.op≠4 then (x.1.next,x.2,0) else (x.1,x.2,0) from HP1.out)
    clear h h6 HP1
    by_cases h0:s.typ=0
    ·have e0:(s.typ == 0)=true:=by simp [h0]
     have E:=Lib.hid (HRA.out.trans (if_pos h0))
     obtain ⟨hd,hhd⟩:∃ hd,(if 7≤c.typ then 0 else c.who)=hd:=⟨_,rfl⟩
     have TK:=Lib.hid (fun w=>taken_any s.gen s.regs s.typ s.holder s.stays a cap c.typ c.who w)
     rw [hhd] at TK
     have E2:=Lib.hid (show (racts s c).1=some (⟨s.gen,s.regs,c.typ,hd,s.stays⟩,[]) from by rw [E.out,← hhd]; rfl)
     clear h0 HRA hhd E
     go_wp2_with fail
     refine (TK.out _).mono ?_
     rintro e w7 ⟨rfl,b7⟩
     have T7:=Lib.hid (T4.out.over b7)
     clear b7 T4
     clear d0 d1 d2 d3 d4 k0 k1 k2 k3 k4 k6
     clear t0 t1 t2 t3 t4 p0 p1 p2 p3 p4
     obtain ⟨⟨t0,t1,t2,t3,t4⟩,p0,p1,p2,p3,p4⟩:=T7.out.t5
     have T8:=Lib.hid (T7.out.put ⟨s.gen,s.regs,c.typ,hd,s.stays⟩ a cap (str_any T7.out.str _ rfl) (.inl ⟨rfl,Nat.le_refl _⟩))
     unfold put5 at T8
     go_wp2
     go_meet
     exact ⟨_,_,_,_,E2.out,T8.out,own_none _ _⟩
    have e0:(s.typ == 0)=false:=by simp [h0]
    have E:=Lib.hid (HRA.out.trans (if_neg h0))
    clear h0 HRA
    cases Hd
    ·have E2:=Lib.hid (show rdo s c=(St.zero,[],4) from by rw [HP2.out,show racts s c=(none,4) from by rw [E.out]; exact if_pos (.inl rfl)])
     obtain ⟨⟨z0,z1,z2,z3,z4⟩,y0,y1,y2,y3,y4⟩:=B4.out.z5
     go_wp2
     refine bodyPost_ret (v:=.tuple #[.agg #[.int .i64 0,.slice none 0 0,.int .i64 0,.int .i64 0,.bool false],.slice none 0 0,.int .i64 4]) (results_r3 Tryz.results37 _ _ (w.heap.size+1+1) 35 #[.int .i64 0,.slice none 0 0,.int .i64 0,.int .i64 0,.bool false] _ (.slice none 0 0) (.int .i64 4) rfl rfl rfl (put5_at B4.out.hZ St.zero none 0) st_row.1 rfl st_row.2) rfl ?_
     exact ord_err E2.out B4.out.below (put5_keeps _ _ St.zero none 0)
    by_cases ht:s.typ=c.typ
    ·have e1:(s.typ != c.typ)=false:=by simp [ht]
     have E2:=Lib.hid (show (racts s c).1=some (s,[]) from by rw [E.out,if_neg (by rintro (h | h); cases h; exact h ht)])
     clear ht
     go_wp2
     go_meet
     exact ⟨_,_,_,_,E2.out,T4.out,own_none _ _⟩
    ·have e1:(s.typ != c.typ)=true:=by simp [ht]
     have E2:=Lib.hid (show rdo s c=(St.zero,[],4) from by rw [HP2.out,show racts s c=(none,4) from by rw [E.out]; exact if_pos (.inr ht)])
     clear ht
     obtain ⟨⟨z0,z1,z2,z3,z4⟩,y0,y1,y2,y3,y4⟩:=B4.out.z5
     go_wp2
     refine bodyPost_ret (v:=.tuple #[.agg #[.int .i64 0,.slice none 0 0,.int .i64 0,.int .i64 0,.bool false],.slice none 0 0,.int .i64 4]) (results_r3 Tryz.results37 _ _ (w.heap.size+1+1) 35 #[.int .i64 0,.slice none 0 0,.int .i64 0,.int .i64 0,.bool false] _ (.slice none 0 0) (.int .i64 4) rfl rfl rfl (put5_at B4.out.hZ St.zero none 0) st_row.1 rfl st_row.2) rfl ?_
     exact ord_err E2.out B4.out.below (put5_keeps _ _ St.zero none 0)
  ·as_aux_lemma =>
    obtain rfl:false=B12:=by rw [← hB12]; simp [h]
    have hop3:(c.op == 3)=false:=by simp [h]
    have hop4:(c.op == 4)=true:=by simp [h]
    have HRA:=Lib.hid (show racts s c=(if Hd=true∧s.typ≠c.typ then (none,5) else if Hd=true then (some (s.free,if 4<s.typ then toldL (othersL c.who s.regs) 2 else []),0) else (some (s,[]),0)) from by
     unfold racts; rw [if_neg (by omega),if_neg (by omega),if_pos h,HHD.out])
    have HP2:=Lib.hid (show rdo s c=match (racts s c).1 with | none=>(St.zero,[],(racts s c).2) | some x=>if c.op≠3∧c.op≠4 then (x.1.next,x.2,0) else (x.1,x.2,0) from HP1.out)
    clear h h6 HP1
    cases Hd
    ·have E2:=Lib.hid (show (racts s c).1=some (s,[]) from by rw [HRA.out,if_neg (fun h=>by cases h.1),if_neg (fun h=>by cases h)])
     go_wp2
     go_meet
     exact ⟨_,_,_,_,E2.out,T4.out,own_none _ _⟩
    by_cases ht:s.typ=c.typ
    rotate_left 1
    ·have e1:(s.typ != c.typ)=true:=by simp [ht]
     have E2:=Lib.hid (show rdo s c=(St.zero,[],5) from by rw [HP2.out,show racts s c=(none,5) from by rw [HRA.out]; exact if_pos ⟨rfl,ht⟩])
     clear ht
     obtain ⟨⟨z0,z1,z2,z3,z4⟩,y0,y1,y2,y3,y4⟩:=B4.out.z5
     go_wp2
     refine bodyPost_ret (v:=.tuple #[.agg #[.int .i64 0,.slice none 0 0,.int .i64 0,.int .i64 0,.bool false],.slice none 0 0,.int .i64 5]) (results_r3 Tryz.results37 _ _ (w.heap.size+1+1) 35 #[.int .i64 0,.slice none 0 0,.int .i64 0,.int .i64 0,.bool false] _ (.slice none 0 0) (.int .i64 5) rfl rfl rfl (put5_at B4.out.hZ St.zero none 0) st_row.1 rfl st_row.2) rfl ?_
     exact ord_err E2.out B4.out.below (put5_keeps _ _ St.zero none 0)
    have e1:(s.typ != c.typ)=false:=by simp [ht]
    have E:=Lib.hid (show (racts s c).1=some (⟨s.gen,s.regs,0,0,s.stays⟩,if 4<s.typ then toldL (othersL c.who s.regs) 2 else []) from by rw [HRA.out,if_neg (fun h=>h.2 ht),if_pos rfl]; rfl)
    clear ht HRA HP2
    go_wp2_with fail
    refine (freed_any s.gen s.regs s.typ s.holder s.stays a cap _).mono ?_
    rintro e w7 ⟨rfl,b7⟩
    have T7:=Lib.hid (T4.out.over b7)
    have B7:=Lib.hid (B4.out.over b7)
    clear b7 T4
    clear d0 d1 d2 d3 d4 k0 k1 k2 k3 k4 k6
    clear t0 t1 t2 t3 t4 p0 p1 p2 p3 p4
    obtain ⟨d0,d1,d2,d3,d4⟩:=B7.out.s5
    obtain ⟨k0,k1,k2,k3,k4,k6⟩:=B7.out.c7
    obtain ⟨⟨t0,t1,t2,t3,t4⟩,p0,p1,p2,p3,p4⟩:=T7.out.t5
    go_upto_region 31 with fail
    obtain ⟨w8,hw8⟩:∃ w8,w8=put5 w7 T ⟨s.gen,s.regs,0,0,s.stays⟩ a cap:=⟨_,rfl⟩
    have T8:=Lib.hid (show TR w.heap.size a s.regs w4 T ⟨s.gen,s.regs,0,0,s.stays⟩ a cap w8 from by
     rw [hw8]
     exact T7.out.put _ _ _ (str_any T7.out.str _ rfl) (.inl ⟨rfl,Nat.le_refl _⟩))
    have B8:=Lib.hid (show OB w s a cap c w8 from T8.out.ob B4.out hNT)
    unfold put5 at hw8
    rw [← hw8]
    clear hw8 T7
    clear d0 d1 d2 d3 d4 k0 k1 k2 k3 k4 k6
    clear t0 t1 t2 t3 t4 p0 p1 p2 p3 p4
    clear B7
    obtain ⟨d0,d1,d2,d3,d4⟩:=B8.out.s5
    obtain ⟨k0,k1,k2,k3,k4,k6⟩:=B8.out.c7
    obtain ⟨⟨t0,t1,t2,t3,t4⟩,p0,p1,p2,p3,p4⟩:=T8.out.t5
    by_cases h4:4<s.typ
    ·have E2:=Lib.hid (show (racts s c).1=some (⟨s.gen,s.regs,0,0,s.stays⟩,toldL (othersL c.who s.regs) 2) from by rw [E.out,if_pos h4])
     clear E
     obtain ⟨O,hO⟩:∃ O,othersL c.who s.regs=O:=⟨_,rfl⟩
     have hol:O.length≤100:=by have:=others_len c.who s.regs s.regs.length; rw [List.take_length,hO] at this; omega
     rw [hO] at E2
     have OC:=Lib.hid (rothers_x s.gen s.regs s.typ s.holder s.stays a cap c.who w8 (HR.out.below B8.out.below) (by omega) O hO)
     clear hO
     go_wp2_with fail
     refine OC.out.mono ?_
     rintro e w9 ⟨a9,c9,rfl,hi9,b9⟩
     have T9:=Lib.hid (T8.out.over b9)
     clear OC T8
     go_wp2_with fail
     refine (rtold_any O a9 c9 2 _ hol hi9).mono ?_
     rintro e w10 ⟨v10,rfl,ho10,b10⟩
     have T10:=Lib.hid (T9.out.over b10)
     have O10:=Lib.hid (ho10.mono (show w4.heap.size≤w9.heap.size from T9.out.keeps.size))
     clear hi9 b9 ho10 b10 T9
     go_wp2
     go_meet
     exact ⟨_,_,_,_,E2.out,T10.out,O10.out⟩
    ·have E2:=Lib.hid (show (racts s c).1=some (⟨s.gen,s.regs,0,0,s.stays⟩,[]) from by rw [E.out,if_neg h4])
     go_wp2
     go_meet
     exact ⟨_,_,_,_,E2.out,T8.out,own_none _ _⟩
  ·as_aux_lemma =>
    obtain rfl:false=B12:=by rw [← hB12]; simp [h]
    have hop3:(c.op == 3)=false:=by simp [h]
    have hop4:(c.op == 4)=false:=by simp [h]
    have hop5:(c.op == 5)=true:=by simp [h]
    have E:=Lib.hid (show (racts s c).1=some (⟨s.gen,[],0,0,s.stays⟩,toldL (othersL c.who s.regs) 3) from by
     unfold racts; rw [if_neg (by omega),if_neg (by omega),if_neg (by omega),if_pos h]; rfl)
    clear h h6 HP1
    obtain ⟨O,hO⟩:∃ O,othersL c.who s.regs=O:=⟨_,rfl⟩
    have hol:O.length≤100:=by have:=others_len c.who s.regs s.regs.length; rw [List.take_length,hO] at this; omega
    rw [hO] at E
    have OC:=Lib.hid (rothers_x s.gen s.regs s.typ s.holder s.stays a cap c.who w4 (HR.out.below B4.out.below) (by omega) O hO)
    clear hO
    go_wp2_with fail
    refine OC.out.mono ?_
    rintro e w9 ⟨a9,c9,rfl,hi9,b9⟩
    have T9:=Lib.hid (T4.out.over b9)
    have B9:=Lib.hid (B4.out.over b9)
    clear OC T4 b9
    go_wp2_with fail
    refine (rtold_any O a9 c9 3 _ hol hi9).mono ?_
    rintro e w10 ⟨v10,rfl,ho10,b10⟩
    have T10:=Lib.hid (T9.out.over b10)
    have B10:=Lib.hid (B9.out.over b10)
    have O10:=Lib.hid (ho10.mono (show w4.heap.size≤w9.heap.size from T9.out.keeps.size))
    clear hi9 ho10 b10 T9 B9
    clear d0 d1 d2 d3 d4 k0 k1 k2 k3 k4 k6
    clear t0 t1 t2 t3 t4 p0 p1 p2 p3 p4
    obtain ⟨d0,d1,d2,d3,d4⟩:=B10.out.s5
    obtain ⟨k0,k1,k2,k3,k4,k6⟩:=B10.out.c7
    go_wp2_with fail
    refine (freed_any s.gen s.regs s.typ s.holder s.stays a cap _).mono ?_
    rintro e w7 ⟨rfl,b7⟩
    have T7:=Lib.hid (T10.out.over b7)
    have O7:=Lib.hid (O10.out.below b7)
    clear b7 T10 B10 O10
    clear d0 d1 d2 d3 d4 k0 k1 k2 k3 k4 k6
    obtain ⟨⟨t0,t1,t2,t3,t4⟩,p0,p1,p2,p3,p4⟩:=T7.out.t5
    have T8:=Lib.hid (show TR w.heap.size a s.regs w4 T ⟨s.gen,[],0,0,s.stays⟩ none 0 ((put5 w7 T ⟨s.gen,s.regs,0,0,s.stays⟩ a cap).setCell ⟨T,1,none⟩ (.slice none 0 0)) from
     T7.out.next (keeps_set (put5_keeps _ _ _ _ _) _ _) (block_setCell (put5_at T7.out.hT _ _ _) _) ⟨by simp,Pairs.nil _ _ _⟩ (.inr (fun b o e=>by cases e)))
    have O8:=Lib.hid (O7.out.keeps (keeps_set (put5_keeps w7 T ⟨s.gen,s.regs,0,0,s.stays⟩ a cap) 1 (.slice none 0 0)) (fun m hm=>by omega))
    unfold put5 at T8 O8
    go_wp2
    go_meet
    exact ⟨_,_,_,_,E.out,T8.out,O8.out⟩
  ·as_aux_lemma =>
    obtain rfl:false=B12:=by rw [← hB12]; simp [h]
    have hop3:(c.op == 3)=false:=by simp [h]
    have hop4:(c.op == 4)=false:=by simp [h]
    have hop5:(c.op == 5)=false:=by simp [h]
    have hop6:(c.op == 6)=true:=by simp [h]
    have HRA:=Lib.hid (show racts s c=rpreempt s c from by unfold racts; rw [if_neg (by omega),if_neg (by omega),if_neg (by omega),if_neg (by omega),if_pos h])
    have HE:∀ f,rpreempt s c=(none,f)→rdo s c=(St.zero,[],f):=fun f hf=>by rw [HP1.out,HRA.out,hf]
    have HERR:=Lib.hid HE
    obtain ⟨TK,hTK⟩:∃ TK,rtakes s c=TK:=⟨_,rfl⟩
    have HTK:=Lib.hid hTK
    obtain ⟨KH,hKH⟩:∃ KH,keyOf s.regs s.holder=KH:=⟨_,rfl⟩
    have RK:=Lib.hid (fun w' (h:StR w' s a)=>rkey_any s a cap s.holder w' h)
    rw [hKH] at RK
    have HKH:=Lib.hid hKH
    have HRQ:=Lib.hid (fun d os=>(HR.out.below B4.out.below).below (below_regrown w4 d os))
    have hTR:=hTK
    unfold rtakes at hTR
    rw [hKH] at hTR
    have HTR:=Lib.hid hTR
    obtain ⟨i0,hi,hz0,hz1,hz2⟩:=info_parts Tryz.infoInt
    obtain ⟨i1,hi1,hy0,hy1,hy2⟩:=info_parts Tryz.infoTell
    have I1:=Lib.hid hi
    have I2:=Lib.hid hz0
    have I3:=Lib.hid hz1
    have I4:=Lib.hid hz2
    have J1:=Lib.hid hi1
    have J2:=Lib.hid hy0
    have J3:=Lib.hid hy1
    have J4:=Lib.hid hy2
    clear h h6 HE hTK hKH hTR hi hz0 hz1 hz2 hi1 hy0 hy1 hy2
    obtain ⟨S7,hS7⟩:∃ S7,decide (7≤s.typ)=S7:=⟨_,rfl⟩
    go_upto_region 39 with fail
    go_upto_if 151 with fail
    go_cut [11] (fun v wx=>v=.bool TK∧Below w4.heap.size w4 wx)
    case first=>as_aux_lemma =>
     cases S7
     rotate_left 1
     ·have h7:7≤s.typ:=of_decide_eq_true hS7
      have e0:(c.new == 0)=TK:=by have:=HTR.out; rw [if_pos h7] at this; rw [← this]; by_cases h:c.new=0 <;> simp [h]
      clear h7
      go_wp2
      go_meet
      exact ⟨rfl,Below.refl _ _⟩
     ·have h7:¬ 7≤s.typ:=of_decide_eq_false hS7
      have h1':=HTR.out
      rw [if_neg h7] at h1'
      by_cases h0:0<s.typ
      ·have e0:decide (0<s.typ)=true:=by simpa using h0
       have ek:(KH == c.new)=TK:=by rw [if_pos h0] at h1'; rw [← h1']; by_cases h:KH=c.new <;> simp [h]
       have hq:=bregrown (Below.refl w4.heap.size w4)
       have hv0:w.heap.size<w4.heap.size:=by omega
       have hv1:w.heap.size+1<w4.heap.size:=by omega
       clear h7 h0 h1' t0 t1 t2 t3 t4 p0 p1 p2 p3 p4
       go_upto_region 42 with fail
       refine wp_region_quiet_below (by kernel_rfl) (by kernel_rfl) ?_
       repeat (go_big_quiet_step (exact Calls.regrown_of (RK.out _ (HRQ.out _ _))))
       refine wpQuiet_nil ?_
       rintro w' ⟨⟨dq,osq⟩,rfl⟩
       go_wp2_with fail
       go_meet
       exact ⟨rfl,below_regrown _ dq osq⟩
      ·have e0:decide (0<s.typ)=false:=by simpa using h0
       obtain rfl:false=TK:=by rw [if_neg h0] at h1'; exact h1'
       clear h7 h0 h1'
       go_wp2
       go_meet
       exact ⟨rfl,Below.refl _ _⟩
    case rest =>
    obtain ⟨rfl,b5⟩:=hcut
    obtain ⟨w5,rfl⟩:∃ w5:World,w5=wc:=⟨_,rfl⟩
    have T5:=Lib.hid (T4.out.over b5)
    have B5:=Lib.hid (B4.out.over b5)
    clear b5 RK HRQ T4 hS7 S7
    clear d0 d1 d2 d3 d4 k0 k1 k2 k3 k4 k6
    clear t0 t1 t2 t3 t4 p0 p1 p2 p3 p4
    obtain ⟨d0,d1,d2,d3,d4⟩:=B5.out.s5
    obtain ⟨k0,k1,k2,k3,k4,k6⟩:=B5.out.c7
    obtain ⟨Q,hQ⟩:∃ Q,((c.new == 0) && !TK)=Q:=⟨_,rfl⟩
    have HQ:=Lib.hid hQ
    obtain ⟨N0,hN0⟩:∃ N0,(c.new == 0)=N0:=⟨_,rfl⟩
    rw [hN0] at hQ
    have HN0:=Lib.hid hN0
    go_upto_region 43 with fail
    go_cut [171] (fun v wx=>v=.bool Q∧wx=w5)
    case first=>as_aux_lemma =>
     cases N0
     ·obtain rfl:false=Q:=by simpa using hQ
      go_wp2
      go_meet
      exact ⟨rfl,rfl⟩
     ·have e1:(!TK)=Q:=by simpa using hQ
      go_wp2
      go_meet
      exact ⟨rfl,rfl⟩
    case rest =>
    obtain ⟨rfl,e0⟩:=hcut
    obtain rfl:=e0.symm
    clear hQ
    cases Q
    rotate_left 1
    ·as_aux_lemma =>
      have E2:=Lib.hid (HERR.out 5 (by
       have h:=HQ.out
       simp only [Bool.and_eq_true,beq_iff_eq,Bool.not_eq_true'] at h
       unfold rpreempt; rw [if_pos ⟨h.1,by rw [HTK.out]; exact h.2⟩]))
      obtain ⟨⟨z0,z1,z2,z3,z4⟩,y0,y1,y2,y3,y4⟩:=B5.out.z5
      go_wp2
      refine bodyPost_ret (v:=.tuple #[.agg #[.int .i64 0,.slice none 0 0,.int .i64 0,.int .i64 0,.bool false],.slice none 0 0,.int .i64 5]) (results_r3 Tryz.results37 _ _ (w.heap.size+1+1) 35 #[.int .i64 0,.slice none 0 0,.int .i64 0,.int .i64 0,.bool false] _ (.slice none 0 0) (.int .i64 5) rfl rfl rfl (put5_at B5.out.hZ St.zero none 0) st_row.1 rfl st_row.2) rfl ?_
      exact ord_err E2.out B5.out.below (put5_keeps _ _ St.zero none 0)
    have HN5:=Lib.hid (show ¬ (c.new=0∧rtakes s c=false) from by
     rintro ⟨h1,h2⟩
     have h:=HQ.out
     rw [HTK.out] at h2
     rw [h1,h2] at h
     cases h)
    obtain ⟨G,hG⟩:∃ G:Nat→List Int,G=fun k=>goneL c.who c.new (s.regs.take k):=⟨_,rfl⟩
    obtain ⟨F,hF⟩:∃ F:Nat→List Int,F=fun k=>leftL c.who c.new (s.regs.take k):=⟨_,rfl⟩
    obtain ⟨PL,hPL⟩:∃ PL:Nat→List (Int × Int),PL=fun k=>putOut s.regs (G k):=⟨_,rfl⟩
    have HGL:=Lib.hid (show ∀ k,(G k).length≤k from fun k=>by rw [hG]; exact Nat.le_trans (gone_len _ _ _) (by simp; omega))
    have HFL:=Lib.hid (show ∀ k,(F k).length≤k from fun k=>by rw [hF]; exact Nat.le_trans (left_len _ _ _) (by simp; omega))
    have HPF:=Lib.hid (show ∀ k,LFo (PL k) 40 from fun k=>by rw [hPL]; exact HL.out.putOut (G k))
    have HG0:=Lib.hid (show G 0=[]∧F 0=[]∧PL 0=s.regs from by rw [hPL,hG,hF]; simp [goneL,leftL,putOut])
    have HSTEP:=Lib.hid (show ∀ k (h:k<s.regs.length),
      (outB c.who c.new s.regs[k]=true→G (k+1)=G k ++ [s.regs[k].1]∧F (k+1)=F k∧PL (k+1)=withL (PL k) s.regs[k].1 0) ∧
      (s.regs[k].1=c.who→G (k+1)=G k∧F (k+1)=F k∧PL (k+1)=PL k) ∧
      (s.regs[k].1≠c.who→outB c.who c.new s.regs[k]=false→G (k+1)=G k∧F (k+1)=F k ++ [s.regs[k].1]∧PL (k+1)=PL k) from fun k h=>by
     rw [hPL,hG,hF]
     refine ⟨fun e=>?_,fun e=>?_,fun e1 e2=>?_⟩
     ·have:=gone_miss c.who c.new s.regs k h e
      exact ⟨this,left_hit c.who c.new s.regs k h (by rw [e]; simp),by dsimp only; rw [this,putOut_snoc]⟩
     ·have o:outB c.who c.new s.regs[k]=false:=by simp [outB,e]
      have:=gone_hit c.who c.new s.regs k h o
      exact ⟨this,left_hit c.who c.new s.regs k h (by simp [e]),by dsimp only; rw [this]⟩
     ·have:=gone_hit c.who c.new s.regs k h e2
      exact ⟨this,left_miss c.who c.new s.regs k h (by simp [e1,e2]),by dsimp only; rw [this]⟩)
    have HFIN:=Lib.hid (show ∀ k,s.regs.length≤k→G k=goneL c.who c.new s.regs∧F k=leftL c.who c.new s.regs∧PL k=putOut s.regs (goneL c.who c.new s.regs) from fun k h=>by
     rw [hPL,hG,hF]; refine ⟨?_,?_,?_⟩ <;> simp only [List.take_of_length_le h])
    clear hG hF hPL
    have T5':=Lib.hid (show TR w.heap.size a s.regs w4 T ⟨s.gen,PL 0,s.typ,s.holder,s.stays⟩ a cap w5 from by rw [HG0.out.2.2]; exact T5.out)
    clear T5
    go_wp2
    go_loopw [12,13,14,15] (fun vg vl i _ wx=>GoRel w.heap.size a s.regs s.gen s.typ s.holder s.stays w4 T G F PL vg vl i wx) (fun _ _ i _ _=>s.regs.length - (intOf i).toNat)
    case atStart=>exact ⟨0,a,cap,by omega,rfl,T5'.out,by rw [HG0.out.1]; exact ⟨rfl,.inl ⟨rfl,rfl⟩⟩,by rw [HG0.out.2.1]; exact ⟨rfl,.inl ⟨rfl,rfl⟩⟩,(fun q h=>by cases h),(fun q b o hp e h=>by rcases h with h | h <;> cases h)⟩
    case round =>
     obtain ⟨k,a3,c3,hk,rfl,tr,og,ol,ap1,ap2⟩:=hrel
     have TR0:=Lib.hid tr
     have OG:=Lib.hid og
     have OL:=Lib.hid ol
     have AP1:=Lib.hid ap1
     have AP2:=Lib.hid ap2
     have BR:=Lib.hid (tr.ob B4.out hNT)
     have hw4r:w4.heap.size≤wr.heap.size:=tr.keeps.size
     clear tr og ol ap1 ap2 T5' B5
     clear d0 d1 d2 d3 d4 k0 k1 k2 k3 k4 k6
     by_cases hlt:k<s.regs.length
     ·obtain ⟨b,o,rfl,hbs,h1,h2⟩:=HP.out k hlt
      have q1:=(BR.out.below.cell (p:=⟨b,o+k*2,none⟩) hbs).trans h1
      have q2:=(BR.out.below.cell (p:=⟨b,o+k*2+1,none⟩) hbs).trans h2
      clear h1 h2
      have HST:=Lib.hid (HSTEP.out k hlt)
      obtain ⟨X,hX⟩:∃ X,s.regs[k]=X:=⟨_,rfl⟩
      obtain ⟨x,y⟩:=X
      rw [hX] at HST q1 q2
      dsimp only at q1 q2
      clear hX
      obtain ⟨d0,d1,d2,d3,d4⟩:=BR.out.s5
      obtain ⟨k0,k1,k2,k3,k4,k6⟩:=BR.out.c7
      go_upto_region 50 with fail
      obtain ⟨w5,hw5⟩:∃ w5,w5=wr.alloc (.cells #[.int .i64 x,.int .i64 y] 118):=⟨_,rfl⟩
      rw [← hw5]
      have b5:Below wr.heap.size wr w5:=hw5▸bal wr _
      have T5:=Lib.hid (TR0.out.over b5)
      have OG5:=Lib.hid (OG.out.below b5)
      have OL5:=Lib.hid (OL.out.below b5)
      have RB:=Lib.hid (show w5.heap[wr.heap.size]?=some (.cells #[.int .i64 x,.int .i64 y] 118 (0,0)) from hw5▸heap_alloc_new wr _)
      have hV5:wr.heap.size<w5.heap.size:=by rw [hw5]; simp
      have B5:=Lib.hid (BR.out.over b5)
      have hw45:w4.heap.size≤w5.heap.size:=by omega
      have OWG:=Lib.hid (show ∀ q,u12.ownBlock=some q→w4.heap.size≤q∧q<wr.heap.size from fun q h=>own_at OG.out h)
      have OWL:=Lib.hid (show ∀ q,u13.ownBlock=some q→w4.heap.size≤q∧q<wr.heap.size from fun q h=>own_at OL.out h)
      have A3L:=Lib.hid (show 0<(PL k).length→∀ b o,a3=some ⟨b,o,none⟩→b<wr.heap.size from fun hp b o e=>by
       obtain ⟨b',o',e',hb',-⟩:=TR0.out.str.rep 0 hp
       rw [e] at e'; cases e'; exact hb')
      clear hw5 b5 q1 q2 TR0 OG OL BR
      clear d0 d1 d2 d3 d4 k0 k1 k2 k3 k4 k6
      obtain ⟨d0,d1,d2,d3,d4⟩:=B5.out.s5
      obtain ⟨k0,k1,k2,k3,k4,k6⟩:=B5.out.c7
      obtain ⟨V,hV⟩:∃ V,wr.heap.size=V:=⟨_,rfl⟩
      rw [hV] at RB hV5 OWG OWL A3L hw4r
      rw [hV]
      clear hV
      have r0:w5.cell? ⟨V,0,none⟩=some (.int .i64 x):=by simp [World.cell?,RB.out]
      have r1:w5.cell? ⟨V,1,none⟩=some (.int .i64 y):=by simp [World.cell?,RB.out]
      have hgk:(G k).length≤40:=by have:=HGL.out k; omega
      have hfk:(F k).length≤40:=by have:=HFL.out k; omega
      by_cases hx:x=c.who
      ·as_aux_lemma =>
        have ex:(x == c.who)=true:=by simp [hx]
        have HE:=Lib.hid (HST.out.2.1 hx)
        clear hx HST
        go_wp2
        go_roundw
        case rel=>exact ⟨k+1,a3,c3,by omega,by go_num,by rw [HE.out.2.2]; exact T5.out,by rw [HE.out.1]; exact OG5.out,by rw [HE.out.2.1]; exact OL5.out,AP1.out,fun q b o hp e h=>AP2.out q b o (by rw [HE.out.2.2] at hp; exact hp) e h⟩
        case measure=>simp [intOf]; omega
      have ex:(x == c.who)=false:=by simp [hx]
      obtain ⟨O,hO⟩:∃ O,((c.new == 0) || (y == c.new))=O:=⟨_,rfl⟩
      have HOB:=Lib.hid (show outB c.who c.new (x,y)=O from by rw [← hO]; unfold outB; rw [Bool.eq_iff_iff]; simp [hx])
      have HX:=Lib.hid hx
      clear hx
      go_upto_region 51 with fail
      go_cut [199] (fun v wx=>v=.bool O∧wx=w5)
      case first=>as_aux_lemma =>
       rw [hN0] at hO
       cases N0
       ·have e1:(y == c.new)=O:=by simpa using hO
        go_wp2
        go_meet
        exact ⟨rfl,rfl⟩
       ·obtain rfl:true=O:=by simpa using hO
        go_wp2
        go_meet
        exact ⟨rfl,rfl⟩
      case rest =>
      obtain ⟨rfl,e0⟩:=hcut
      obtain rfl:=e0.symm
      clear hO
      cases O
      ·as_aux_lemma =>
        have HE:=Lib.hid (HST.out.2.2 HX.out HOB.out)
        have OW:=Lib.hid (fun o=>show (w5.alloc o).ownsRow w4.heap.size 3 1 u13 (F k).length ((F k).map (Value.int .i64)) from OL5.out.below (bal w5 o))
        clear HST
        go_wp2_with (at_builtin; refine wpList_append_own_at _ rfl _ _ 65 rfl w4.heap.size 3 i0 (.int .i64 0) 1 8 Tryz.underlying65 I1.out I2.out I3.out I4.out rfl (by decide) _ _ _ rfl (OW.out _) ⟨w5.heap.size,0,none⟩ 1 1 [.int .i64 x] rfl rfl (row_newI w5 #[.int .i64 x] _) (fun u hu=>by simp at hu; subst hu; rfl) (by unfold maxLen; omega) (by omega) (Nat.le_trans hw45 (bal w5 _).size) ?_)
        intro v6 w6 hown hg _ hat
        have k6:Keeps (fun b=>u13.ownBlock=some b) w5 w6:=⟨hg.os,hg.tape,hg.output,Nat.le_trans (by simp) hg.size,fun b hb hl=>(hg.block b (by simp; omega) (Ne.symm hb)).trans (Below.heap_alloc _ _ _ hl)⟩
        have T6:=Lib.hid (T5.out.moves k6 (fun b h=>(OWL.out b h).1) (fun hp b o e h=>AP2.out b b o hp e (.inr h) rfl))
        have O6:=Lib.hid (show OwnI w4.heap.size w6 v6 (F k ++ [x]) from by simpa [OwnI] using hown)
        have P6:=Lib.hid (own_moves OG5.out k6 (fun b h h'=>AP1.out b h h'))
        have R6:=Lib.hid (show w6.cell? ⟨V,0,none⟩=some (.int .i64 x) from (k6.cell (b:=V) (o:=0) (fun h=>by have:=(OWL.out _ h).2; omega) hV5).trans r0)
        have VQ:=Lib.hid (show ∀ q,v6.ownBlock=some q→(u13.ownBlock=some q∨w5.heap.size<q) from fun q h=>by
         rcases hat with e | e
         ·exact .inl (e▸h)
         ·rw [e] at h; simp at h; exact .inr (by omega))
        have A1:=Lib.hid (show ∀ q,v6.ownBlock=some q→u12.ownBlock≠some q from fun q h h'=>by
         rcases VQ.out q h with e | e
         ·exact AP1.out q h' e
         ·have:=(OWG.out q h').2; omega)
        clear hown hg hat OW r0 r1
        go_wp2
        go_roundw
        case rel=>exact ⟨k+1,a3,c3,by omega,by go_num,by rw [HE.out.2.2]; exact T6.out,by rw [HE.out.1]; exact P6.out,by rw [HE.out.2.1]; exact O6.out,fun q h h'=>A1.out q h' h,fun q b o hp e h=>by
         rw [HE.out.2.2] at hp
         rcases h with h | h
         ·exact AP2.out q b o hp e (.inl h)
         ·rcases VQ.out q h with h' | h'
          ·exact AP2.out q b o hp e (.inr h')
          ·have:=A3L.out hp b o e; omega⟩
        case measure=>simp [intOf]; omega
      ·as_aux_lemma =>
        have HE:=Lib.hid (HST.out.1 HOB.out)
        have OW:=Lib.hid (fun o=>show (w5.alloc o).ownsRow w4.heap.size 3 1 u12 (G k).length ((G k).map (Value.int .i64)) from OG5.out.below (bal w5 o))
        clear HST
        go_wp2_with (at_builtin; refine wpList_append_own_at _ rfl _ _ 65 rfl w4.heap.size 3 i0 (.int .i64 0) 1 8 Tryz.underlying65 I1.out I2.out I3.out I4.out rfl (by decide) _ _ _ rfl (OW.out _) ⟨w5.heap.size,0,none⟩ 1 1 [.int .i64 x] rfl rfl (row_newI w5 #[.int .i64 x] _) (fun u hu=>by simp at hu; subst hu; rfl) (by unfold maxLen; omega) (by omega) (Nat.le_trans hw45 (bal w5 _).size) ?_)
        intro v6 w6 hown hg _ hat
        have k6:Keeps (fun b=>u12.ownBlock=some b) w5 w6:=⟨hg.os,hg.tape,hg.output,Nat.le_trans (by simp) hg.size,fun b hb hl=>(hg.block b (by simp; omega) (Ne.symm hb)).trans (Below.heap_alloc _ _ _ hl)⟩
        have T6:=Lib.hid (T5.out.moves k6 (fun b h=>(OWG.out b h).1) (fun hp b o e h=>AP2.out b b o hp e (.inl h) rfl))
        have O6:=Lib.hid (show OwnI w4.heap.size w6 v6 (G k ++ [x]) from by simpa [OwnI] using hown)
        have P6:=Lib.hid (own_moves OL5.out k6 (fun b h h'=>AP1.out b h' h))
        have R6:=Lib.hid (show w6.cell? ⟨V,0,none⟩=some (.int .i64 x) from (k6.cell (b:=V) (o:=0) (fun h=>by have:=(OWG.out _ h).2; omega) hV5).trans r0)
        have VQ:=Lib.hid (show ∀ q,v6.ownBlock=some q→(u12.ownBlock=some q∨w5.heap.size<q) from fun q h=>by
         rcases hat with e | e
         ·exact .inl (e▸h)
         ·rw [e] at h; simp at h; exact .inr (by omega))
        have A1:=Lib.hid (show ∀ q,v6.ownBlock=some q→u13.ownBlock≠some q from fun q h h'=>by
         rcases VQ.out q h with e | e
         ·exact AP1.out q e h'
         ·have:=(OWL.out q h').2; omega)
        clear hown hg hat OW r0 r1
        obtain ⟨⟨t0,t1,t2,t3,t4⟩,-⟩:=T6.out.t5
        have r6:=R6.out
        obtain ⟨LN,hLN⟩:∃ LN,withL (PL k) x 0=LN:=⟨_,rfl⟩
        have WC:=Lib.hid (rwith_x s.gen (PL k) s.typ s.holder s.stays a3 c3 x 0 w6 T6.out.str (by have:=(HPF.out k).len; omega) (Int.le_refl _) (HPF.out k).sort LN hLN)
        rw [hLN] at HE
        clear hLN
        dsimp only at t0 t1 t2 t3 t4
        go_wp2_with fail
        refine WC.out.mono ?_
        rintro e w7 ⟨a7,c7,rfl,hs7,b7,lo7⟩
        have T7:=Lib.hid (T6.out.over b7)
        have O7:=Lib.hid (O6.out.below b7)
        have P7:=Lib.hid (P6.out.below b7)
        have T8:=Lib.hid (T7.out.put ⟨s.gen,LN,s.typ,s.holder,s.stays⟩ a7 c7 hs7 (.inr (fun b o e=>Nat.le_trans T6.out.keeps.size (lo7 b o e))))
        have O8:=Lib.hid (O7.out.keeps (put5_keeps w7 T ⟨s.gen,LN,s.typ,s.holder,s.stays⟩ a7 c7) (fun m hm=>by omega))
        have P8:=Lib.hid (P7.out.keeps (put5_keeps w7 T ⟨s.gen,LN,s.typ,s.holder,s.stays⟩ a7 c7) (fun m hm=>by omega))
        have LO:=Lib.hid (show ∀ q b o,a7=some ⟨b,o,none⟩→(v6.ownBlock=some q∨u13.ownBlock=some q)→b≠q from fun q b o e h=>by
         have h1:=lo7 b o e
         rcases h with h | h
         ·have:=(own_at O6.out h).2; omega
         ·have:=(own_at P6.out h).2; omega)
        unfold put5 at T8 O8 P8
        clear t0 t1 t2 t3 t4 r6 hs7 b7 lo7 WC
        obtain ⟨⟨t0,t1,t2,t3,t4⟩,p0,p1,p2,p3,p4⟩:=T7.out.t5
        go_wp2
        go_roundw
        case rel=>exact ⟨k+1,a7,c7,by omega,by go_num,by rw [HE.out.2.2]; exact T8.out,by rw [HE.out.1]; exact O8.out,by rw [HE.out.2.1]; exact P8.out,A1.out,fun q b o _ e h=>LO.out q b o e h⟩
        case measure=>simp [intOf]; omega
     ·obtain rfl:k=s.regs.length:=by omega
      obtain ⟨GG,hGG⟩:∃ GG,G s.regs.length=GG:=⟨_,rfl⟩
      obtain ⟨FF,hFF⟩:∃ FF,F s.regs.length=FF:=⟨_,rfl⟩
      obtain ⟨PP,hPP⟩:∃ PP,PL s.regs.length=PP:=⟨_,rfl⟩
      have HF0:=HFIN.out s.regs.length (Nat.le_refl _)
      have hg0:=HGL.out s.regs.length
      have hf0:=HFL.out s.regs.length
      rw [hGG] at OG HF0 hg0
      rw [hFF] at OL HF0 hf0
      rw [hPP] at TR0 HF0
      have HF:=Lib.hid HF0
      clear hGG hFF hPP HF0 HSTEP HFIN HGL HFL HPF HG0 AP1 AP2 hlt hk
      have HPR:=Lib.hid (show rpreempt s c=(if TK=false∧GG.length=0∧Ky≠c.new then (none,4)
        else if TK=true then (some (⟨s.gen,PP,c.typ,if 7≤c.typ then 0 else c.who,s.stays⟩,toldL GG 1 ++ (if s.typ≠c.typ then toldL FF 2 else [])),0)
        else (some (⟨s.gen,PP,s.typ,s.holder,s.stays⟩,toldL GG 1),0)) from by
       unfold rpreempt; rw [if_neg HN5.out,HTK.out,← HF.out.1,HKY.out,HF.out.2.1,HF.out.2.2,← HF.out.1]; rfl)
      obtain ⟨ag,cg,hvg,-⟩:=OG.out.shape
      obtain ⟨al,cl,hvl,-⟩:=OL.out.shape
      subst hvg
      subst hvl
      obtain ⟨ng,hng⟩:∃ ng,GG.length=ng:=⟨_,rfl⟩
      obtain ⟨nf,hnf⟩:∃ nf,FF.length=nf:=⟨_,rfl⟩
      have IG:=Lib.hid OG.out.ints
      have IL:=Lib.hid OL.out.ints
      have RT1:=Lib.hid (fun w' (h:Ints w'.heap.size w' ag GG)=>rtold_any GG ag cg 1 w' (by omega) h)
      have RT2:=Lib.hid (fun w' (h:Ints w'.heap.size w' al FF)=>rtold_any FF al cl 2 w' (by omega) h)
      rw [hng] at HPR RT1 ⊢
      rw [hnf] at RT2 ⊢
      have HNG:=Lib.hid hng
      have HNF:=Lib.hid hnf
      clear hng hnf OG OL
      obtain ⟨d0,d1,d2,d3,d4⟩:=BR.out.s5
      obtain ⟨k0,k1,k2,k3,k4,k6⟩:=BR.out.c7
      obtain ⟨Q2,hQ2⟩:∃ Q2,(!TK && (decide (ng=0) && (Ky != c.new)))=Q2:=⟨_,rfl⟩
      have HQ2:=Lib.hid hQ2
      go_upto_region 55 with fail
      go_cut [226] (fun v wx=>v=.bool Q2∧wx=wr)
      case first=>as_aux_lemma =>
       cases TK
       ·by_cases h0:ng=0
        ·have e0:((ng:Int) == 0)=true:=by simp [h0]
         have e1:(Ky != c.new)=Q2:=by rw [← hQ2]; simp [h0]
         clear h0
         go_wp2
         go_meet
         exact ⟨rfl,rfl⟩
        ·have e0:((ng:Int) == 0)=false:=by simp; omega
         obtain rfl:false=Q2:=by rw [← hQ2]; simp [h0]
         clear h0
         go_wp2
         go_meet
         exact ⟨rfl,rfl⟩
       ·obtain rfl:false=Q2:=by rw [← hQ2]; rfl
        go_wp2
        go_meet
        exact ⟨rfl,rfl⟩
      case rest =>
      obtain ⟨rfl,e0⟩:=hcut
      obtain rfl:=e0.symm
      clear hQ2
      cases Q2
      rotate_left 1
      ·as_aux_lemma =>
        have E2:=Lib.hid (HERR.out 4 (by
         have h:=HQ2.out
         simp only [Bool.and_eq_true,Bool.not_eq_true',decide_eq_true_eq,bne_iff_ne] at h
         rw [HPR.out,if_pos ⟨h.1,h.2.1,h.2.2⟩]))
        obtain ⟨⟨z0,z1,z2,z3,z4⟩,y0,y1,y2,y3,y4⟩:=BR.out.z5
        go_wp2
        refine bodyPost_ret (v:=.tuple #[.agg #[.int .i64 0,.slice none 0 0,.int .i64 0,.int .i64 0,.bool false],.slice none 0 0,.int .i64 4]) (results_r3 Tryz.results37 _ _ (w.heap.size+1+1) 35 #[.int .i64 0,.slice none 0 0,.int .i64 0,.int .i64 0,.bool false] _ (.slice none 0 0) (.int .i64 4) rfl rfl rfl (put5_at BR.out.hZ St.zero none 0) st_row.1 rfl st_row.2) rfl ?_
        exact ord_err E2.out BR.out.below (put5_keeps _ _ St.zero none 0)
      have HP3:=Lib.hid (HPR.out.trans (if_neg (by
       rintro ⟨h1,h2,h3⟩
       have h:=HQ2.out
       simp [h1,h2,h3] at h)))
      clear HPR HQ2 HERR
      go_wp2_with fail
      refine (RT1.out _ IG.out).mono ?_
      rintro e w10 ⟨v10,rfl,ho10,b10⟩
      have T10:=Lib.hid (TR0.out.over b10)
      have B10:=Lib.hid (BR.out.over b10)
      have O10:=Lib.hid (ho10.mono hw4r)
      have VB:=Lib.hid (show ∀ q,v10.ownBlock=some q→wr.heap.size≤q from ho10.blk)
      have A3R:=Lib.hid (show 0<PP.length→∀ b o,a3=some ⟨b,o,none⟩→b<wr.heap.size from fun hp b o e=>by
       obtain ⟨b',o',e',hb',-⟩:=TR0.out.str.rep 0 hp
       rw [e] at e'; cases e'; exact hb')
      have IL10:=Lib.hid ((IL.out.below b10 (Nat.le_refl _)).mono b10.size)
      clear ho10 b10 TR0 BR IG IL RT1
      clear d0 d1 d2 d3 d4 k0 k1 k2 k3 k4 k6
      obtain ⟨d0,d1,d2,d3,d4⟩:=B10.out.s5
      obtain ⟨k0,k1,k2,k3,k4,k6⟩:=B10.out.c7
      cases TK
      ·as_aux_lemma =>
        have E:=Lib.hid (show (racts s c).1=some (⟨s.gen,PP,s.typ,s.holder,s.stays⟩,toldL GG 1) from by rw [HRA.out,HP3.out,if_neg (by simp)])
        go_wp2
        go_meet
        exact ⟨_,_,_,_,E.out,T10.out,O10.out⟩
      have E:=Lib.hid (show (racts s c).1=some (⟨s.gen,PP,c.typ,if 7≤c.typ then 0 else c.who,s.stays⟩,toldL GG 1 ++ (if s.typ≠c.typ then toldL FF 2 else [])) from by rw [HRA.out,HP3.out,if_pos rfl])
      clear HP3
      obtain ⟨hd,hhd⟩:∃ hd,(if 7≤c.typ then 0 else c.who)=hd:=⟨_,rfl⟩
      have TKN:=Lib.hid (fun aa cc w'=>taken_any s.gen PP s.typ s.holder s.stays aa cc c.typ c.who w')
      rw [hhd] at TKN E
      clear hhd
      obtain ⟨XX,hXX⟩:∃ XX,toldL GG 1 ++ (if s.typ≠c.typ then toldL FF 2 else [])=XX:=⟨_,rfl⟩
      rw [hXX] at E
      obtain ⟨TE,hTE⟩:∃ TE,(s.typ != c.typ)=TE:=⟨_,rfl⟩
      go_upto_region 59 with fail
      go_upto_if 235 with fail
      go_cut [10] (fun v wx=>OwnT w4.heap.size wx v XX∧TR w.heap.size a s.regs w4 T ⟨s.gen,PP,s.typ,s.holder,s.stays⟩ a3 c3 wx)
      case first=>as_aux_lemma =>
       cases TE
       ·have he:s.typ=c.typ:=by simpa using hTE
        have HX1:=Lib.hid (show XX=toldL GG 1 from by rw [← hXX,if_neg (by simpa using he),List.append_nil])
        clear he hTE
        go_wp2
        go_meet
        exact ⟨by rw [HX1.out]; exact O10.out,T10.out⟩
       ·have he:s.typ≠c.typ:=by simpa using hTE
        have HX1:=Lib.hid (show XX=toldL GG 1 ++ toldL FF 2 from by rw [← hXX,if_pos he])
        clear he hXX hTE
        go_wp2_with fail
        refine (RT2.out _ IL10.out).mono ?_
        rintro e w11 ⟨v11,rfl,ho11,b11⟩
        have T11:=Lib.hid (T10.out.over b11)
        have O11:=Lib.hid (O10.out.below b11)
        obtain ⟨X1,hX1⟩:∃ X1,toldL GG 1=X1:=⟨_,rfl⟩
        obtain ⟨X2,hX2⟩:∃ X2,toldL FF 2=X2:=⟨_,rfl⟩
        have l1:X1.length≤40:=by rw [← hX1]; simp [toldL]; omega
        have l2:X2.length≤40:=by rw [← hX2]; simp [toldL]; omega
        rw [hX1] at O11 HX1
        rw [hX2] at ho11 HX1
        obtain ⟨a11,c11,rfl,hp11⟩:=ho11.shape
        clear hX1 hX2 O10 T10 b11 RT2 IL10
        by_cases e0:X2.length=0
        ·have HX2:=Lib.hid (show XX=X1 from by rw [HX1.out,List.length_eq_zero_iff.1 e0,List.append_nil])
         obtain ⟨a10,c10,hv,-⟩:=O11.out.shape
         subst hv
         have hcap:X1.length≤c10:=own_cap O11.out
         rw [e0]
         clear e0
         go_wp2_with (at_builtin; refine wpList_append_empty rfl _ _ 78 rfl 162 i1 Tryz.underlying78 J1.out a10 X1.length c10 hcap a11 c11 rfl rfl ?_)
         go_meet
         exact ⟨by rw [HX2.out]; exact O11.out,T11.out⟩
        ·have hp:∃ b o,a11=some ⟨b,o,none⟩:=by
          obtain ⟨b,o,e,-⟩:=hp11 0 (by omega)
          exact ⟨b,o,e⟩
         obtain ⟨b,o,rfl⟩:=hp
         go_wp2_with (at_builtin; refine wpList_append_own _ rfl _ _ 78 rfl w4.heap.size 162 i1 (.agg #[.int .i64 0,.int .i64 0]) 2 16 Tryz.underlying78 J1.out J2.out J3.out J4.out rfl (by decide) _ _ _ rfl O11.out ⟨b,o,none⟩ X2.length c11 (pcells X2) rfl (pcells_length _) (pairs_cells hp11) (pcells_one _) (by unfold maxLen; omega) (by omega) T11.out.keeps.size ?_)
         intro v' w12 hown hg _
         have k12:Keeps (fun b=>v10.ownBlock=some b) w11 w12:=⟨hg.os,hg.tape,hg.output,hg.size,fun b hb hl=>hg.block b hl (Ne.symm hb)⟩
         have T12:=Lib.hid (T11.out.moves k12 (fun b h=>by have:=VB.out b h; omega) (fun hp b o e h=>by have:=VB.out b h; have:=A3R.out hp b o e; omega))
         have O12:=Lib.hid (show OwnT w4.heap.size w12 v' XX from by rw [HX1.out]; exact own_app hown)
         clear hown hg k12
         go_wp2
         go_meet
         exact ⟨O12.out,T12.out⟩
      case rest =>
      obtain ⟨ho,tr⟩:=hcut
      obtain ⟨w13,rfl⟩:∃ w13:World,w13=wc:=⟨_,rfl⟩
      have O13:=Lib.hid ho
      have T13:=Lib.hid tr
      have B13:=Lib.hid (tr.ob B4.out hNT)
      clear ho tr T10 O10 B10 RT2 IL10 VB A3R
      clear d0 d1 d2 d3 d4 k0 k1 k2 k3 k4 k6
      obtain ⟨d0,d1,d2,d3,d4⟩:=B13.out.s5
      obtain ⟨k0,k1,k2,k3,k4,k6⟩:=B13.out.c7
      obtain ⟨⟨t0,t1,t2,t3,t4⟩,p0,p1,p2,p3,p4⟩:=T13.out.t5
      dsimp only at t0 t1 t2 t3 t4
      go_wp2_with fail
      refine (TKN.out a3 c3 _).mono ?_
      rintro e w14 ⟨rfl,b14⟩
      have T14:=Lib.hid (T13.out.over b14)
      have O14:=Lib.hid (O13.out.below b14)
      clear b14 T13 O13 B13
      clear d0 d1 d2 d3 d4 k0 k1 k2 k3 k4 k6
      clear t0 t1 t2 t3 t4 p0 p1 p2 p3 p4
      obtain ⟨⟨t0,t1,t2,t3,t4⟩,p0,p1,p2,p3,p4⟩:=T14.out.t5
      have T15:=Lib.hid (T14.out.put ⟨s.gen,PP,c.typ,hd,s.stays⟩ a3 c3 (str_any T14.out.str _ rfl) T14.out.al)
      have O15:=Lib.hid (O14.out.keeps (put5_keeps w14 T ⟨s.gen,PP,c.typ,hd,s.stays⟩ a3 c3) (fun m hm=>by omega))
      unfold put5 at T15 O15
      go_wp2
      go_meet
      exact ⟨_,_,_,_,E.out,T15.out,O15.out⟩
 case rest =>
  obtain ⟨wo,rfl⟩:∃ wo:World,wo=wc:=⟨_,rfl⟩
  obtain ⟨r,lt,a3,c3,hra,tr,ho⟩:=hcut
  have hgr:=racts_gen hra
  have hg1:0≤r.gen∧r.gen≤1000000000:=by rw [hgr]; exact hg
  have T5:=Lib.hid tr
  have O5:=Lib.hid ho
  have B5:=Lib.hid (tr.ob B4.out hNT)
  have HP2:=Lib.hid (show rdo s c=if c.op≠3∧c.op≠4 then (r.next,lt,0) else (r,lt,0) from by rw [HP1.out,hra])
  clear hgr tr ho hra HP1 T4
  clear d0 d1 d2 d3 d4 k0 k1 k2 k3 k4 k6
  clear t0 t1 t2 t3 t4 p0 p1 p2 p3 p4
  obtain ⟨d0,d1,d2,d3,d4⟩:=B5.out.s5
  obtain ⟨k0,k1,k2,k3,k4,k6⟩:=B5.out.c7
  obtain ⟨⟨t0,t1,t2,t3,t4⟩,p0,p1,p2,p3,p4⟩:=T5.out.t5
  obtain ⟨⟨z0,z1,z2,z3,z4⟩,y0,y1,y2,y3,y4⟩:=B5.out.z5
  have hne:T≠w.heap.size+1+1:=by omega
  have hne2:w.heap.size+1+1≠T:=by omega
  by_cases h3:c.op=3
  ·have hb3:(c.op != 3)=false:=by simp [h3]
   have E:=Lib.hid (HP2.out.trans (if_neg (by omega)))
   clear h3 HP2
   go_wp2
   refine bodyPost_ret (v:=.tuple #[.agg #[.int .i64 r.gen,.slice a3 r.regs.length c3,.int .i64 r.typ,.int .i64 r.holder,.bool r.stays],u10,.int .i64 0]) (results_r3 Tryz.results37 _ _ (w.heap.size+1+1) 35 #[.int .i64 r.gen,.slice a3 r.regs.length c3,.int .i64 r.typ,.int .i64 r.holder,.bool r.stays] _ u10 (.int .i64 0) rfl rfl rfl (put5_at B5.out.hZ r a3 c3) st_row.1 rfl st_row.2) rfl ?_
   exact ord_fin (r:=r) E.out B5.out.below T5.out O5.out h44 (put5_keeps _ _ r a3 c3)
  have n3:=h3
  clear h3
  by_cases h3:c.op=4
  ·have hb3:(c.op != 3)=true:=by simp [h3]
   have hb4:(c.op != 4)=false:=by simp [h3]
   have E:=Lib.hid (HP2.out.trans (if_neg (by omega)))
   clear h3 HP2
   go_wp2
   refine bodyPost_ret (v:=.tuple #[.agg #[.int .i64 r.gen,.slice a3 r.regs.length c3,.int .i64 r.typ,.int .i64 r.holder,.bool r.stays],u10,.int .i64 0]) (results_r3 Tryz.results37 _ _ (w.heap.size+1+1) 35 #[.int .i64 r.gen,.slice a3 r.regs.length c3,.int .i64 r.typ,.int .i64 r.holder,.bool r.stays] _ u10 (.int .i64 0) rfl rfl rfl (put5_at B5.out.hZ r a3 c3) st_row.1 rfl st_row.2) rfl ?_
   exact ord_fin (r:=r) E.out B5.out.below T5.out O5.out h44 (put5_keeps _ _ r a3 c3)
  have n4:=h3
  clear h3
  have hb3:(c.op != 3)=true:=by rw [bne_iff_ne]; exact n3
  have hb4:(c.op != 4)=true:=by rw [bne_iff_ne]; exact n4
  have E:=Lib.hid (HP2.out.trans (if_pos ⟨n3,n4⟩))
  clear n3 n4 HP2 h6
  by_cases hov:1000000000<r.gen+1
  ·have E2:=Lib.hid (show rdo s c=(⟨0,r.regs,r.typ,r.holder,r.stays⟩,lt,0) from by rw [E.out]; simp only [St.next,if_pos hov])
   have T6:=Lib.hid (show TR w.heap.size a s.regs w4 T ⟨0,r.regs,r.typ,r.holder,r.stays⟩ a3 c3 ((wo.setCell ⟨T,0,none⟩ (.int .i64 (r.gen+1))).setCell ⟨T,0,none⟩ (.int .i64 0)) from
    T5.out.next (keeps_set (keeps_set (Keeps.refl _ _) _ _) _ _) (block_setCell (block_setCell T5.out.hT _) _) (str_any T5.out.str _ rfl) T5.out.al)
   have O6:=Lib.hid (O5.out.keeps (keeps_set (keeps_set (Keeps.refl (·=T) wo) 0 (.int .i64 (r.gen+1))) 0 (.int .i64 0)) (fun m hm=>by omega))
   have B6:=Lib.hid (T6.out.ob B4.out hNT)
   go_wp2
   refine bodyPost_ret (v:=.tuple #[.agg #[.int .i64 0,.slice a3 r.regs.length c3,.int .i64 r.typ,.int .i64 r.holder,.bool r.stays],u10,.int .i64 0]) (results_r3 Tryz.results37 _ _ (w.heap.size+1+1) 35 #[.int .i64 0,.slice a3 r.regs.length c3,.int .i64 r.typ,.int .i64 r.holder,.bool r.stays] _ u10 (.int .i64 0) rfl rfl rfl (put5_at B6.out.hZ ⟨0,r.regs,r.typ,r.holder,r.stays⟩ a3 c3) st_row.1 rfl st_row.2) rfl ?_
   exact ord_fin (r:=⟨0,r.regs,r.typ,r.holder,r.stays⟩) E2.out B6.out.below T6.out O6.out h44 (put5_keeps _ _ ⟨0,r.regs,r.typ,r.holder,r.stays⟩ a3 c3)
  ·have E2:=Lib.hid (show rdo s c=(⟨r.gen+1,r.regs,r.typ,r.holder,r.stays⟩,lt,0) from by rw [E.out]; simp only [St.next,if_neg hov])
   have T6:=Lib.hid (show TR w.heap.size a s.regs w4 T ⟨r.gen+1,r.regs,r.typ,r.holder,r.stays⟩ a3 c3 (wo.setCell ⟨T,0,none⟩ (.int .i64 (r.gen+1))) from
    T5.out.next (keeps_set (Keeps.refl _ _) _ _) (block_setCell T5.out.hT _) (str_any T5.out.str _ rfl) T5.out.al)
   have O6:=Lib.hid (O5.out.keeps (keeps_set (Keeps.refl (·=T) wo) 0 (.int .i64 (r.gen+1))) (fun m hm=>by omega))
   have B6:=Lib.hid (T6.out.ob B4.out hNT)
   go_wp2
   refine bodyPost_ret (v:=.tuple #[.agg #[.int .i64 (r.gen+1),.slice a3 r.regs.length c3,.int .i64 r.typ,.int .i64 r.holder,.bool r.stays],u10,.int .i64 0]) (results_r3 Tryz.results37 _ _ (w.heap.size+1+1) 35 #[.int .i64 (r.gen+1),.slice a3 r.regs.length c3,.int .i64 r.typ,.int .i64 r.holder,.bool r.stays] _ u10 (.int .i64 0) rfl rfl rfl (put5_at B6.out.hZ ⟨r.gen+1,r.regs,r.typ,r.holder,r.stays⟩ a3 c3) st_row.1 rfl st_row.2) rfl ?_
   exact ord_fin (r:=⟨r.gen+1,r.regs,r.typ,r.holder,r.stays⟩) E2.out B6.out.below T6.out O6.out h44 (put5_keeps _ _ ⟨r.gen+1,r.regs,r.typ,r.holder,r.stays⟩ a3 c3)
end Go.Proofs.YtajegiifabfcjaaGreatDoor
