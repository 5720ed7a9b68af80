/-
  TopSync: the walk. (Printed in part by gen_sync.py.)
-/
import Derived.Test.YtajegiifabfcjaaGreatDoorTTgK
import Derived.Test.YtajegiifabfcjaaGreatDoorTTgEq
import Derived.Test.YtajegiifabfcjaaGreatDoorTSyncP
namespace Go.Proofs.YtajegiifabfcjaaGreatDoor
open List (getElem_toArray getElem_cons_zero getElem_cons_succ setIfInBounds_toArray set_cons_zero set_cons_succ)
open Go.RowKit Go.Sort
theorem eql_us (l:List Bool) (hl:l.length=3) (w:World):(binOp .eql 58 (.agg (l.map Value.bool).toArray) (.agg (l.map Value.bool).toArray)).run Tryz.prog w=.ok (.bool true) w:=by
 rw [run_eql_struct,eq_us 9998 l l hl hl,decide_eq_true rfl]; rfl
theorem eqg_us:Tryz.prog.eqGuardType Tryz.prog.depth 58=false:=by kernel_rfl
theorem gp_rangeU {w:World} {N:Nat} {g:Gp} {T:TypeId} (h:w.heap[N]?=some (.cells g.arr T (0,0))) (hg:g.ok):w.rangeAt N 75 (g.u.map Value.bool):=fun j v hv=>by
 obtain ⟨hj,rfl⟩:=List.getElem?_eq_some_iff.1 hv
 rw [List.getElem_map]
 exact (gp_up h hg (by simpa using hj)).1
set_option maxRecDepth 100000 in
set_option maxHeartbeats 8000000 in
theorem tpsame_any (g h:Gp) (i:Nat) (w:World) (hg:g.ok) (hh:h.ok) (he:∀ j,j≠i→g.r.getD j Rp.zero=h.r.getD j Rp.zero) :
  Calls Tryz.prog 30 #[.agg g.arr,.agg h.arr,.int .i64 i] w fun e w'=>e=.returned (.bool true)∧Below w.heap.size w w':=by
 have OG:=Lib.hid hg
 have OH:=Lib.hid hh
 have HE:=Lib.hid he
 have ZG:=Gp.size hg
 have ZH:=Gp.size hh
 obtain ⟨w1,hw1⟩:∃ w1,w1=(w.alloc (.cells g.arr 60)).alloc (.cells h.arr 60):=⟨_,rfl⟩
 have B1:=Lib.hid (show RowKit.Below w.heap.size w w1 from hw1▸(bal w _).trans ((bal _ _).mono (by simp)))
 have G1:=Lib.hid (show w1.heap[w.heap.size]?=some (.cells g.arr 60 (0,0)) from hw1▸heap_alloc2_old w _ _)
 have H1:=Lib.hid (show w1.heap[w.heap.size+1]?=some (.cells h.arr 60 (0,0)) from hw1▸heap_alloc2_new w _ _)
 clear hg hh he ZG ZH
 go_enter Tryz.func30,Tryz.ntmps30
 go_upto_region 1 with fail
 rw [← hw1]
 clear hw1
 obtain ⟨U,hU⟩:∃ U,w.heap.size=U:=⟨_,rfl⟩
 have HU:=Lib.hid hU
 rw [hU] at G1 H1 ⊢
 clear hU
 obtain ⟨U2,hU2⟩:∃ U2,U+1=U2:=⟨_,rfl⟩
 rw [hU2] at H1 ⊢
 clear hU2
 go_wp2
 go_loopw [7] (fun i wr=>∃ m:Nat,m≤3∧i=.int .i64 m∧RowKit.Below w1.heap.size w1 wr) (fun i _=>3 - (intOf i).toNat)
 case atStart=>exact ⟨0,by omega,rfl,Below.refl _ _⟩
 case round =>
 obtain ⟨m,hm,rfl,hb⟩:=hrel
 have HB:=Lib.hid hb
 clear hb
 by_cases hm3:m<3
 ·have hgr:m<g.r.length:=by rw [OG.out.r3]; exact hm3
  have hhr:m<h.r.length:=by rw [OH.out.r3]; exact hm3
  have hm3i:(m:Int)<3:=by omega
  have LTB:=Lib.hid (show U<wr.heap.size∧U2<wr.heap.size from ⟨Nat.lt_of_lt_of_le (Array.getElem?_eq_some_iff.1 G1.out).1 HB.out.size,Nat.lt_of_lt_of_le (Array.getElem?_eq_some_iff.1 H1.out).1 HB.out.size⟩)
  have GW:=Lib.hid (fun w' (b:RowKit.Below wr.heap.size wr w')=>(b.block U LTB.out.1).trans ((HB.out.block U (Array.getElem?_eq_some_iff.1 G1.out).1).trans G1.out))
  have HW:=Lib.hid (fun w' (b:RowKit.Below wr.heap.size wr w')=>(b.block U2 LTB.out.2).trans ((HB.out.block U2 (Array.getElem?_eq_some_iff.1 H1.out).1).trans H1.out))
  obtain ⟨p,hp⟩:∃ p,g.r[m]=p:=⟨_,rfl⟩
  obtain ⟨q,hq⟩:∃ q,h.r[m]=q:=⟨_,rfl⟩
  have P8:=Lib.hid (show p.cells.length=8 from hp▸OG.out.c8 _ (List.getElem_mem hgr))
  have ZP:=Lib.hid (Rp.size P8.out)
  have RP:=Lib.hid (fun w' (b:RowKit.Below wr.heap.size wr w')=>show w'.rangeAt U (m*25) p.arr.toList from hp▸(gp_range (GW.out w' b) OG.out hgr).1)
  have RQ:=Lib.hid (fun w' (b:RowKit.Below wr.heap.size wr w')=>show w'.rangeAt U2 (m*25) q.arr.toList from hq▸(gp_range (HW.out w' b) OH.out hhr).1)
  have EPQ:=Lib.hid (show m≠i→q=p from fun hne=>by
   have e:=HE.out m hne
   rw [List.getD_eq_getElem?_getD,List.getD_eq_getElem?_getD,List.getElem?_eq_getElem hgr,List.getElem?_eq_getElem hhr,hp,hq] at e
   exact e.symm)
  clear hp hq hgr hhr GW HW
  go_upto_region 4 with fail
  go_cut [25] (fun v wx=>v=.bool false∧RowKit.Below wr.heap.size wr wx)
  case first =>
   obtain ⟨S',hS⟩:∃ S':World→Prop,S'=fun w'=>RowKit.Below wr.heap.size wr w':=⟨_,rfl⟩
   have S3:∀ w',RowKit.Below wr.heap.size wr w'→S' w':=fun w' h=>by rw [hS]; exact h
   have S4:∀ w',S' w'→RowKit.Below wr.heap.size wr w':=fun w' h=>by rw [hS] at h; exact h
   clear hS
   refine wp_region_held_drew (S:=S') (by kernel_rfl) (S3 _ (Below.refl _ _).drew) (fun hHeld=>?_)
   obtain ⟨wd,hwd⟩:∃ wd,wd=wr.drew:=⟨_,rfl⟩
   rw [← hwd] at hHeld ⊢
   clear hwd
   by_cases hmi:m=i
   ·have tmi:(m:Int)=(i:Int):=by omega
    clear hmi EPQ
    refine wt 0 (.int .i64 m) rfl (by kernel_rfl) (Or.inl ⟨by rfl,fun w' hSw=>by go_simp⟩) hHeld ?_
    simp only [Act.put,getElem_toArray,getElem_cons_zero,setIfInBounds_toArray,set_cons_zero,set_cons_succ]
    refine wt 1 (.int .i64 i) rfl (by kernel_rfl) (Or.inl ⟨by rfl,fun w' hSw=>by go_simp⟩) hHeld ?_
    simp only [Act.put,getElem_toArray,getElem_cons_zero,getElem_cons_succ,setIfInBounds_toArray,set_cons_zero,set_cons_succ]
    refine wt 2 (.bool false) rfl (by kernel_rfl) (Or.inl ⟨by rfl,fun w' hSw=>by go_simp⟩) hHeld ?_
    simp only [Act.put,getElem_toArray,getElem_cons_zero,getElem_cons_succ,setIfInBounds_toArray,set_cons_zero,set_cons_succ]
    refine wt 3 (.bool false) rfl (by kernel_rfl) (Or.inl ⟨by rfl,fun w' hSw=>by go_simp⟩) hHeld ?_
    simp only [Act.put,getElem_toArray,getElem_cons_zero,getElem_cons_succ,setIfInBounds_toArray,set_cons_zero,set_cons_succ]
    refine wt 4 (undef) rfl (by kernel_rfl) (Or.inr ⟨by rfl,rfl⟩) hHeld ?_
    simp only [Act.put,getElem_toArray,getElem_cons_zero,getElem_cons_succ,setIfInBounds_toArray,set_cons_zero,set_cons_succ]
    refine wt 5 (undef) rfl (by kernel_rfl) (Or.inr ⟨by rfl,rfl⟩) hHeld ?_
    simp only [Act.put,getElem_toArray,getElem_cons_zero,getElem_cons_succ,setIfInBounds_toArray,set_cons_zero,set_cons_succ]
    refine wt 6 (undef) rfl (by kernel_rfl) (Or.inr ⟨by rfl,rfl⟩) hHeld ?_
    simp only [Act.put,getElem_toArray,getElem_cons_zero,getElem_cons_succ,setIfInBounds_toArray,set_cons_zero,set_cons_succ]
    refine wt 7 (undef) rfl (by kernel_rfl) (Or.inr ⟨by rfl,rfl⟩) hHeld ?_
    simp only [Act.put,getElem_toArray,getElem_cons_zero,getElem_cons_succ,setIfInBounds_toArray,set_cons_zero,set_cons_succ]
    refine wt 8 (undef) rfl (by kernel_rfl) (Or.inr ⟨by rfl,rfl⟩) hHeld ?_
    simp only [Act.put,getElem_toArray,getElem_cons_zero,getElem_cons_succ,setIfInBounds_toArray,set_cons_zero,set_cons_succ]
    refine wt 9 (undef) rfl (by kernel_rfl) (Or.inr ⟨by rfl,rfl⟩) hHeld ?_
    simp only [Act.put,getElem_toArray,getElem_cons_zero,getElem_cons_succ,setIfInBounds_toArray,set_cons_zero,set_cons_succ]
    refine wt 10 (undef) rfl (by kernel_rfl) (Or.inr ⟨by rfl,rfl⟩) hHeld ?_
    simp only [Act.put,getElem_toArray,getElem_cons_zero,getElem_cons_succ,setIfInBounds_toArray,set_cons_zero,set_cons_succ]
    refine wt 11 (undef) rfl (by kernel_rfl) (Or.inr ⟨by rfl,rfl⟩) hHeld ?_
    simp only [Act.put,getElem_toArray,getElem_cons_zero,getElem_cons_succ,setIfInBounds_toArray,set_cons_zero,set_cons_succ]
    refine wt 12 (undef) rfl (by kernel_rfl) (Or.inr ⟨by rfl,rfl⟩) hHeld ?_
    simp only [Act.put,getElem_toArray,getElem_cons_zero,getElem_cons_succ,setIfInBounds_toArray,set_cons_zero,set_cons_succ]
    refine wt 13 (.bool false) rfl (by kernel_rfl) (Or.inl ⟨by rfl,fun w' hSw=>by go_simp⟩) hHeld ?_
    simp only [Act.put,getElem_toArray,getElem_cons_zero,getElem_cons_succ,setIfInBounds_toArray,set_cons_zero,set_cons_succ]
    refine wpAnyH_done (by kernel_rfl) ?_ _
    go_wp2_with fail
    go_meet
    exact ⟨rfl,S4 _ hHeld⟩
   ·have hpq:=EPQ.out hmi
    rw [hpq] at RQ
    have NE:=Lib.hid (fun w=>(neq_rp p p P8.out P8.out w).trans (by rw [eqRp_self]; rfl:_=Result.ok (.bool false) w))
    have tmi:¬ (m:Int)=(i:Int):=by omega
    clear hmi hpq
    refine wt 0 (.int .i64 m) rfl (by kernel_rfl) (Or.inl ⟨by rfl,fun w' hSw=>by go_simp⟩) hHeld ?_
    simp only [Act.put,getElem_toArray,getElem_cons_zero,setIfInBounds_toArray,set_cons_zero,set_cons_succ]
    refine wt 1 (.int .i64 i) rfl (by kernel_rfl) (Or.inl ⟨by rfl,fun w' hSw=>by go_simp⟩) hHeld ?_
    simp only [Act.put,getElem_toArray,getElem_cons_zero,getElem_cons_succ,setIfInBounds_toArray,set_cons_zero,set_cons_succ]
    refine wt 2 (.bool true) rfl (by kernel_rfl) (Or.inl ⟨by rfl,fun w' hSw=>by go_simp⟩) hHeld ?_
    simp only [Act.put,getElem_toArray,getElem_cons_zero,getElem_cons_succ,setIfInBounds_toArray,set_cons_zero,set_cons_succ]
    refine wt 3 (.bool true) rfl (by kernel_rfl) (Or.inl ⟨by rfl,fun w' hSw=>by go_simp⟩) hHeld ?_
    simp only [Act.put,getElem_toArray,getElem_cons_zero,getElem_cons_succ,setIfInBounds_toArray,set_cons_zero,set_cons_succ]
    refine wt 4 (.int .i64 m) rfl (by kernel_rfl) (Or.inl ⟨by rfl,fun w' hSw=>by go_simp⟩) hHeld ?_
    simp only [Act.put,getElem_toArray,getElem_cons_zero,getElem_cons_succ,setIfInBounds_toArray,set_cons_zero,set_cons_succ]
    refine wt 5 (.pointer (some ⟨U,0,none⟩)) rfl (by kernel_rfl) (Or.inl ⟨by rfl,fun w' hSw=>by go_simp⟩) hHeld ?_
    simp only [Act.put,getElem_toArray,getElem_cons_zero,getElem_cons_succ,setIfInBounds_toArray,set_cons_zero,set_cons_succ]
    refine wt 6 (.pointer (some ⟨U,m*25,none⟩)) rfl (by kernel_rfl) (Or.inl ⟨by rfl,fun w' hSw=>by go_simp⟩) hHeld ?_
    simp only [Act.put,getElem_toArray,getElem_cons_zero,getElem_cons_succ,setIfInBounds_toArray,set_cons_zero,set_cons_succ]
    refine wt 7 (.agg p.arr) rfl (by kernel_rfl) (yieldsIf_load_midA (by rfl) 56 _ rfl U (m*25) rfl p.arr _ (fun w' h=>RP.out w' (S4 w' h)) rp_row.1 rfl (by rw [rp_row.2.1,ZP.out])) hHeld ?_
    simp only [Act.put,getElem_toArray,getElem_cons_zero,getElem_cons_succ,setIfInBounds_toArray,set_cons_zero,set_cons_succ]
    refine wt 8 (.int .i64 m) rfl (by kernel_rfl) (Or.inl ⟨by rfl,fun w' hSw=>by go_simp⟩) hHeld ?_
    simp only [Act.put,getElem_toArray,getElem_cons_zero,getElem_cons_succ,setIfInBounds_toArray,set_cons_zero,set_cons_succ]
    refine wt 9 (.pointer (some ⟨U2,0,none⟩)) rfl (by kernel_rfl) (Or.inl ⟨by rfl,fun w' hSw=>by go_simp⟩) hHeld ?_
    simp only [Act.put,getElem_toArray,getElem_cons_zero,getElem_cons_succ,setIfInBounds_toArray,set_cons_zero,set_cons_succ]
    refine wt 10 (.pointer (some ⟨U2,m*25,none⟩)) rfl (by kernel_rfl) (Or.inl ⟨by rfl,fun w' hSw=>by go_simp⟩) hHeld ?_
    simp only [Act.put,getElem_toArray,getElem_cons_zero,getElem_cons_succ,setIfInBounds_toArray,set_cons_zero,set_cons_succ]
    refine wt 11 (.agg p.arr) rfl (by kernel_rfl) (yieldsIf_load_midA (by rfl) 56 _ rfl U2 (m*25) rfl p.arr _ (fun w' h=>RQ.out w' (S4 w' h)) rp_row.1 rfl (by rw [rp_row.2.1,ZP.out])) hHeld ?_
    simp only [Act.put,getElem_toArray,getElem_cons_zero,getElem_cons_succ,setIfInBounds_toArray,set_cons_zero,set_cons_succ]
    refine wt 12 (.bool false) rfl (by kernel_rfl) (yieldsIf_bin (by rfl) .neq 56 _ _ _ rfl p.arr p.arr rfl rfl eqg_rp _ NE.out) hHeld ?_
    simp only [Act.put,getElem_toArray,getElem_cons_zero,getElem_cons_succ,setIfInBounds_toArray,set_cons_zero,set_cons_succ]
    refine wt 13 (.bool false) rfl (by kernel_rfl) (Or.inl ⟨by rfl,fun w' hSw=>by go_simp⟩) hHeld ?_
    simp only [Act.put,getElem_toArray,getElem_cons_zero,getElem_cons_succ,setIfInBounds_toArray,set_cons_zero,set_cons_succ]
    refine wpAnyH_done (by kernel_rfl) ?_ _
    go_wp2_with fail
    go_meet
    exact ⟨rfl,S4 _ hHeld⟩
  case rest =>
   obtain ⟨wv,rfl⟩:∃ wv:World,wv=wr:=⟨_,rfl⟩
   obtain ⟨rfl,b4⟩:=hcut
   have HB4:=Lib.hid (HB.out.trans (b4.mono HB.out.size))
   clear b4
   go_wp2
   go_roundw
   case rel=>exact ⟨m+1,by omega,by go_num,HB4.out⟩
   case measure=>simp [intOf]; omega
 ·go_wp2
  go_ret
  exact ⟨rfl,B1.out.trans (HB.out.mono B1.out.size)⟩
set_option maxRecDepth 100000 in
set_option maxHeartbeats 40000000 in
theorem topsync_walk (l:List Ac) (a:Option Addr) (cap:Nat) (i:Int) (w:World) (hl:l.length≤maxLen) (hr:ActsAt w a l) (tt:Tabs w) :
  Calls Tryz.prog 5 #[.slice a l.length cap,.int .i64 i] w fun e w'=>e=.returned (.bool true)∧Below w.heap.size w w':=by
 have TT:=Lib.hid tt
 have WK:=Lib.hid (works_any w tt)
 have PLAYED:=Lib.hid (fun w' (b:RowKit.Below w.heap.size w w')=>played_any l a cap w' hl (hr.below b) (TT.out.on b))
 clear hr tt
 go_enter Tryz.func5,Tryz.ntmps5
 go_wp2_with fail
 refine WK.out.mono ?_
 rintro e w2 ⟨rfl,b2⟩
 have B2:=Lib.hid b2
 have PL:=Lib.hid (PLAYED.out w2 b2)
 clear b2 WK PLAYED
 go_wp2_with fail
 refine PL.out.mono ?_
 rintro e w3 (⟨rfl,b3⟩ | ⟨D,T,t,S,rfl,h3,j3⟩)
 ·have B3:=Lib.hid (show RowKit.Below w.heap.size w w3 from B2.out.trans (b3.mono B2.out.size))
  clear b3 PL
  go_wp2
  go_ret
  exact ⟨rfl,B3.out⟩
 have H3:=Lib.hid h3
 have J3:=Lib.hid j3
 have BW3:=Lib.hid (show RowKit.Below w.heap.size w w3 from B2.out.trans (h3.below.mono B2.out.size))
 clear h3 j3 PL
 by_cases hi0:i<0
 ·go_wp2
  go_ret
  exact ⟨rfl,BW3.out⟩
 by_cases hi3:3≤i
 ·go_wp2
  go_ret
  exact ⟨rfl,BW3.out⟩
 obtain ⟨k,rfl⟩:∃ k:Nat,i=(k:Int):=⟨i.toNat,by omega⟩
 have HK3:=Lib.hid (show k<3 from by omega)
 have GRP:=Lib.hid (tgroup_any w2 w3 10 D T t _ H3.out)
 have GOK:=Lib.hid (show t.g.ok from J3.out.ti.qi.ok)
 have ZG:=Lib.hid (Gp.size GOK.out)
 have LAW:=Lib.hid (sync_lawP J3.out.ti HK3.out)
 obtain ⟨g,hg⟩:∃ g,t.g=g:=⟨_,rfl⟩
 have HG:=Lib.hid hg
 rw [hg] at GRP GOK ZG LAW
 clear hg
 go_wp2_with fail
 refine GRP.out.mono ?_
 rintro e w4 ⟨rfl,b4⟩
 have Z4:=Lib.hid (show (w4.alloc (.cells Tryz.zeroCells60 60)).heap[w4.heap.size]?=some (.cells Gp.zero.arr 60 (0,0)) from gp_zero_arr▸heap_alloc_new w4 _)
 go_upto_region 8 with ((with_reducible refine st_row1 rfl 60 _ _ rfl ?_); refine ⟨w4.heap.size,_,g.arr,Gp.zero.arr,rfl,rfl,Z4.out,by rw [gp_row.2,ZG.out],by rw [ZG.out]; rfl,Gp.one _,?_⟩)
 obtain ⟨w5,hw5⟩:∃ w5,w5=(w4.alloc (.cells Tryz.zeroCells60 60)).setRow w4.heap.size g.arr:=⟨_,rfl⟩
 rw [← hw5]
 have B5:=Lib.hid (show RowKit.Below w3.heap.size w3 w5 from b4.trans ((hw5▸bel_row w4 _ _ _:RowKit.Below w4.heap.size w4 w5).mono b4.size))
 have G5:=Lib.hid (show w5.heap[w4.heap.size]?=some (.cells g.arr 60 (0,0)) from hw5▸setRow_heap _ _ _ _ _ _ Z4.out)
 have LU:=Lib.hid (show w3.heap.size≤w4.heap.size from b4.size)
 obtain ⟨U,hU⟩:∃ U,w4.heap.size=U:=⟨_,rfl⟩
 rw [hU] at G5 LU ⊢
 clear hw5 hU Z4 b4 GRP hi0 hi3
 have HK3i:(k:Int)<3:=by have:=HK3.out; omega
 have hkr:k<g.r.length:=by rw [GOK.out.r3]; exact HK3.out
 obtain ⟨Z,hZ⟩:∃ Z:Nat→Prop,Z=fun c=>(fun _=>False) c∨(w3.heap.size≤c∧c<w5.heap.size):=⟨_,rfl⟩
 have H5:=Lib.hid (show TgR w2 10 D T t Z w5 from hZ▸H3.out.more B5.out)
 have ZN:=Lib.hid (show ∀ b,w3.heap.size≤b→b<w5.heap.size→Z b from fun b h1 h2=>hZ▸Or.inr ⟨h1,h2⟩)
 clear hZ
 have EPO:=Lib.hid (tepoch_any w2 w5 10 D T t Z H5.out)
 obtain ⟨E,hE⟩:∃ E,t.k.ep=E:=⟨_,rfl⟩
 obtain ⟨FL,hFL⟩:∃ F,g.r[k].floor=F:=⟨_,rfl⟩
 have HFL:=Lib.hid (show flG g k=FL from by unfold flG; simp [hkr,hFL])
 have SYN:=Lib.hid (tsync_any w2 w5 10 D T t Z (k:Int) H5.out)
 obtain ⟨sr,hsr⟩:∃ r,t.sync (k:Int)=r:=⟨_,rfl⟩
 have f0:=(gp_floor G5.out GOK.out hkr).1
 rw [hE] at EPO LAW
 rw [hsr] at SYN LAW
 rw [hFL] at f0
 clear hE hFL hsr hkr
 go_wp2_with ((with_reducible refine EPO.out.mono ?_); rintro e w5 ⟨rfl,rfl⟩)
 refine SYN.out.mono ?_
 rintro e w6 ⟨rfl,h6,s6,-⟩
 have H6:=Lib.hid h6
 have U6:=Lib.hid ((s6 U (ZN.out U LU.out (Array.getElem?_eq_some_iff.1 G5.out).1)).trans G5.out)
 have BW6:=Lib.hid (show RowKit.Below w.heap.size w w6 from B2.out.trans (h6.below.mono B2.out.size))
 clear h6 s6 SYN EPO f0 G5 H5 B5 ZN LU BW3
 obtain ⟨u,hu⟩:∃ u,sr.1=u:=⟨_,rfl⟩
 obtain ⟨f,hff⟩:∃ f,sr.2=f:=⟨_,rfl⟩
 rw [hu] at H6 LAW
 rw [hff] at LAW ⊢
 clear hu hff
 have GRP:=Lib.hid (tgroup_any w2 w6 10 D T u Z H6.out)
 have GOK2:=Lib.hid (show u.g.ok from by obtain ⟨X,m,ki,tb,lo,hy⟩:=H6.out; exact tb.ok)
 have ZG2:=Lib.hid (Gp.size GOK2.out)
 obtain ⟨g2,hg2⟩:∃ g2,u.g=g2:=⟨_,rfl⟩
 have HG2:=Lib.hid hg2
 rw [hg2] at GRP GOK2 ZG2
 clear hg2
 go_wp2_with fail
 refine GRP.out.mono ?_
 rintro e w7 ⟨rfl,b7⟩
 have Z7:=Lib.hid (show (w7.alloc (.cells Tryz.zeroCells60 60)).heap[w7.heap.size]?=some (.cells Gp.zero.arr 60 (0,0)) from gp_zero_arr▸heap_alloc_new w7 _)
 go_upto_region 12 with ((with_reducible refine st_row1 rfl 60 _ _ rfl ?_); refine ⟨w7.heap.size,_,g2.arr,Gp.zero.arr,rfl,rfl,Z7.out,by rw [gp_row.2,ZG2.out],by rw [ZG2.out]; rfl,Gp.one _,?_⟩)
 obtain ⟨w8,hw8⟩:∃ w8,w8=(w7.alloc (.cells Tryz.zeroCells60 60)).setRow w7.heap.size g2.arr:=⟨_,rfl⟩
 rw [← hw8]
 have B8:=Lib.hid (show RowKit.Below w6.heap.size w6 w8 from b7.trans ((hw8▸bel_row w7 _ _ _:RowKit.Below w7.heap.size w7 w8).mono b7.size))
 have N8:=Lib.hid (show w8.heap[w7.heap.size]?=some (.cells g2.arr 60 (0,0)) from hw8▸setRow_heap _ _ _ _ _ _ Z7.out)
 have G8:=Lib.hid ((B8.out.block U (Array.getElem?_eq_some_iff.1 U6.out).1).trans U6.out)
 have BW8:=Lib.hid (show RowKit.Below w.heap.size w w8 from BW6.out.trans (B8.out.mono BW6.out.size))
 obtain ⟨U2,hU2⟩:∃ U,w7.heap.size=U:=⟨_,rfl⟩
 rw [hU2] at N8 ⊢
 clear hw8 hU2 Z7 b7 GRP U6 B8 BW6
 have GW:=Lib.hid (fun w' (b:RowKit.Below w8.heap.size w8 w')=>(b.block U (Array.getElem?_eq_some_iff.1 G8.out).1).trans G8.out)
 have NW2:=Lib.hid (fun w' (b:RowKit.Below w8.heap.size w8 w')=>(b.block U2 (Array.getElem?_eq_some_iff.1 N8.out).1).trans N8.out)
 have UB:=Lib.hid (show U<w8.heap.size∧U2<w8.heap.size from ⟨(Array.getElem?_eq_some_iff.1 G8.out).1,(Array.getElem?_eq_some_iff.1 N8.out).1⟩)
 by_cases hf0:f=0
 case neg =>
  obtain ⟨h7,hut⟩:=LAW.out.1 hf0
  have hgg:g2=g:=by rw [← HG2.out,← HG.out,hut]
  rw [errV_some hf0,h7]
  rw [hgg] at NW2
  have NUM:=Lib.hid (tpnum_any 7 (by omega) w8)
  have EQ:=fun w=>(eql_gp GOK.out GOK.out w).trans (show _=Result.ok (.bool true) w from by rw [decide_eq_true rfl])
  have hgu:=eqg_gp
  clear hf0 hut hgg h7 LAW N8 G8
  go_wp2_with fail
  refine NUM.out.mono ?_
  rintro e w9 ⟨rfl,b9⟩
  have B9:=Lib.hid b9
  have BZ:=Lib.hid (show RowKit.Below w.heap.size w w9 from BW8.out.trans (b9.mono BW8.out.size))
  clear b9
  go_wp2_with (first | ((with_reducible refine ld_row_g1 60 _ rfl ?_); first | refine ⟨by rfl,U2,_,g.arr,_,rfl,NW2.out _ B9.out,gp_row.1,rfl,by rw [gp_row.2,ZG.out],?_⟩ | refine ⟨by rfl,U,_,g.arr,_,rfl,GW.out _ B9.out,gp_row.1,rfl,by rw [gp_row.2,ZG.out],?_⟩) | ((with_reducible refine bin_g1 .eql 60 _ _ _ rfl ?_); refine ⟨by rfl,g.arr,g.arr,.bool true,rfl,rfl,hgu,EQ,?_⟩))
  go_ret
  exact ⟨rfl,BZ.out⟩
 obtain ⟨hne,hu2,hfl2,hval,hup,hoth⟩:=LAW.out.2 hf0
 have hg2e:g2=g.sync E k:=by rw [← HG2.out,hu2]
 have HVAL:=Lib.hid (show ∀ j,j<8→valG g2 j k=bestL j (g.frm E) from fun j hj=>by rw [hg2e]; exact hval j hj)
 have HUP:=Lib.hid (show g2.u=g.u from by rw [hg2e]; exact hup)
 have HOTH:=Lib.hid (show ∀ j,j≠k→g2.r.getD j Rp.zero=g.r.getD j Rp.zero from fun j hj=>by rw [hg2e]; exact hoth j hj)
 have hk2:k<g2.r.length:=by rw [GOK2.out.r3]; exact HK3.out
 have HF2:=Lib.hid (show g2.r[k].floor=E from by
  have e:flG g2 k=E:=by rw [hg2e]; exact hfl2
  unfold flG at e
  simpa [hk2] using e)
 have hmem:¬ FL=E:=by rw [← HFL.out]; exact hne
 rw [hf0,errV_nil]
 have f2:=(gp_floor N8.out GOK2.out hk2).1
 rw [HF2.out] at f2
 clear hf0 hne hu2 hfl2 hval hup hoth hg2e LAW
 go_upto_region 16 with fail
 clear hmem f2
 have LM:=Lib.hid (show (g.frm E).length=(g.mem E).length from by simp [Gp.frm])
 obtain ⟨L,hL⟩:∃ L,g.frm E=L:=⟨_,rfl⟩
 have LAT:=Lib.hid (show ∀ j (h:j<(g.mem E).length),∃ i':Nat,i'<3∧(g.mem E)[j]=(i':Int)∧L[j]?=some (g.r.getD i' Rp.zero) from fun j h=>by
  obtain ⟨i',e,h3,-⟩:=Gp.mem_lt (List.getElem_mem h)
  refine ⟨i',h3,e,?_⟩
  rw [← hL]
  unfold Gp.frm
  rw [List.getElem?_map,List.getElem?_eq_getElem h,e]
  rfl)
 rw [hL] at LM HVAL
 clear hL
 obtain ⟨m,hm⟩:∃ m,(g.mem E).length=m:=⟨_,rfl⟩
 have HM:=Lib.hid hm
 rw [hm] at LM
 have hm3:m≤3:=hm▸g.mem_len E 3
 clear hm
 go_wp2
 go_loopw [13] (fun i wr=>∃ x:Nat,x≤8∧i=.int .i64 x∧RowKit.Below w8.heap.size w8 wr) (fun i _=>8 - (intOf i).toNat)
 case atStart=>exact ⟨0,by omega,rfl,Below.refl _ _⟩
 case round =>
 obtain ⟨x,hx,rfl,hbx⟩:=hrel
 have BX:=Lib.hid hbx
 clear hbx
 by_cases hx8:x<8
 case neg =>
  obtain rfl:x=8:=by omega
  have SAME:=Lib.hid (tpsame_any g2 g k wr GOK2.out GOK.out HOTH.out)
  have RU1:=Lib.hid (show wr.rangeAt U 75 (g.u.map Value.bool) from gp_rangeU (GW.out _ BX.out) GOK.out)
  have RU2:=Lib.hid (show wr.rangeAt U2 75 (g.u.map Value.bool) from HUP.out▸gp_rangeU (NW2.out _ BX.out) GOK2.out)
  obtain ⟨UA,hUA⟩:∃ A,(g.u.map Value.bool).toArray=A:=⟨_,rfl⟩
  have ZU:=Lib.hid (show UA.size=3 from by rw [← hUA]; simp [GOK.out.u3])
  have EQ:=Lib.hid (show ∀ w,(binOp .eql 58 (.agg UA) (.agg UA)).run Tryz.prog w=.ok (.bool true) w from fun w=>hUA▸eql_us g.u GOK.out.u3 w)
  have hgu:=eqg_us
  have RA1:=Lib.hid (show wr.rangeAt U 75 UA.toList from hUA▸RU1.out)
  have RA2:=Lib.hid (show wr.rangeAt U2 75 UA.toList from hUA▸RU2.out)
  clear hUA RU1 RU2
  go_wp2_with (first | ((with_reducible refine ld_mid1 rfl 58 _ rfl ?_); first | refine ⟨U2,75,UA,_,rfl,RA2.out,us_row.1,rfl,by rw [us_row.2.1,ZU.out],?_⟩ | refine ⟨U,75,UA,_,rfl,RA1.out,us_row.1,rfl,by rw [us_row.2.1,ZU.out],?_⟩) | ((with_reducible refine bin_g1 .eql 58 _ _ _ rfl ?_); refine ⟨by rfl,UA,UA,.bool true,rfl,rfl,hgu,EQ.out,?_⟩) | ((with_reducible refine ld_row_g1 60 _ rfl ?_); first | refine ⟨by rfl,U2,_,g2.arr,_,rfl,NW2.out _ BX.out,gp_row.1,rfl,by rw [gp_row.2,ZG2.out],?_⟩ | refine ⟨by rfl,U,_,g.arr,_,rfl,GW.out _ BX.out,gp_row.1,rfl,by rw [gp_row.2,ZG.out],?_⟩))
  refine SAME.out.mono ?_
  rintro e w9 ⟨rfl,b9⟩
  have BZ:=Lib.hid (show RowKit.Below w.heap.size w w9 from BW8.out.trans ((BX.out.trans (b9.mono BX.out.size)).mono BW8.out.size))
  clear b9
  go_wp2
  go_ret
  exact ⟨rfl,BZ.out⟩
 have hx8':(x:Int)≤7:=by omega
 have hx8i:(x:Int)<8:=by omega
 go_upto_region 20 with fail
 obtain ⟨w9,hw9⟩:∃ w9,w9=wr.alloc (.cells Cel.zero.cells 30):=⟨_,rfl⟩
 have B9:=Lib.hid (show RowKit.Below wr.heap.size wr w9 from hw9▸bal wr _)
 have C9:=Lib.hid (show w9.heap[wr.heap.size]?=some (.cells Cel.zero.cells 30 (0,0)) from hw9▸heap_alloc_new wr _)
 rw [cel_zero_arr] at hw9
 rw [← hw9]
 clear hw9
 obtain ⟨B,hB⟩:∃ B,wr.heap.size=B:=⟨_,rfl⟩
 have HBB:=Lib.hid hB
 have UB9:=Lib.hid (show U<B∧U2<B from by have:=UB.out; have:=BX.out.size; omega)
 rw [hB] at C9 B9 ⊢
 clear hB
 have G9:=Lib.hid ((B9.out.block U UB9.out.1).trans (GW.out _ BX.out))
 have N9:=Lib.hid ((B9.out.block U2 UB9.out.2).trans (NW2.out _ BX.out))
 have MEM:=Lib.hid (members_any g E w9 GOK.out)
 go_wp2_with ((with_reducible refine ld_row1 rfl 60 _ rfl ?_); refine ⟨U,_,g.arr,_,rfl,G9.out,gp_row.1,rfl,by rw [gp_row.2,ZG.out],?_⟩)
 refine MEM.out.mono ?_
 rintro e w10 ⟨a2,c2,rfl,hown,b10⟩
 rw [HM.out]
 have HI:=Lib.hid hown.hi
 have B10:=Lib.hid (show RowKit.Below B wr w10 from B9.out.trans (b10.mono (by have:=B9.out.size; have:=HBB.out; omega)))
 have C10:=Lib.hid ((b10.block B (Array.getElem?_eq_some_iff.1 C9.out).1).trans C9.out)
 have G10:=Lib.hid ((b10.block U (Array.getElem?_eq_some_iff.1 G9.out).1).trans G9.out)
 have N10:=Lib.hid ((b10.block U2 (Array.getElem?_eq_some_iff.1 N9.out).1).trans N9.out)
 have BL9:=Lib.hid (show B<w9.heap.size from (Array.getElem?_eq_some_iff.1 C9.out).1)
 clear hown b10 MEM C9 G9 N9 B9
 obtain ⟨wo,rfl⟩:∃ wo:World,wo=wr:=⟨_,rfl⟩
 go_wp2
 go_loopw [16] (fun i wr=>∃ j:Nat,j≤m∧i=.int .i64 j∧wr.heap[B]?=some (.cells (bestL x (L.take j)).cells 30 (0,0))∧Keeps (·=B) w10 wr) (fun i _=>m - (intOf i).toNat)
 case atStart=>exact ⟨0,by omega,rfl,C10.out,Keeps.refl _ _⟩
 case round =>
 obtain ⟨j,hj,rfl,hc,hb⟩:=hrel
 obtain ⟨b,hbb⟩:∃ b,bestL x (L.take j)=b:=⟨_,rfl⟩
 rw [hbb] at hc
 have CB:=Lib.hid hc
 have HB:=Lib.hid hb
 have BB:=Lib.hid hbb
 clear hc hb hbb
 have hNB:B<wr.heap.size:=(Array.getElem?_eq_some_iff.1 CB.out).1
 have G6:=Lib.hid ((HB.out.block U (fun e=>by have:=UB9.out; omega) (Array.getElem?_eq_some_iff.1 G10.out).1).trans G10.out)
 have N6:=Lib.hid ((HB.out.block U2 (fun e=>by have:=UB9.out; omega) (Array.getElem?_eq_some_iff.1 N10.out).1).trans N10.out)
 by_cases hjm:j<m
 ·obtain ⟨i',h3,hxe,hLj⟩:=LAT.out j (by rw [HM.out]; exact hjm)
  obtain ⟨bb,oo,rfl,hlo,hbk,hcell⟩:=HI.out j (by rw [HM.out]; exact hjm)
  rw [hxe] at hcell
  have c0:=(HB.out.cell (b:=bb) (o:=oo+j) (by have:=BL9.out; omega) hbk).trans hcell
  have h3i:(i':Int)<3:=by omega
  have hkr:i'<g.r.length:=by rw [GOK.out.r3]; exact h3
  have hkc:x<g.r[i'].cells.length:=by rw [GOK.out.c8 _ (List.getElem_mem hkr)]; exact hx8
  obtain ⟨⟨g0,g1,g2'⟩,-⟩:=gp_cellA G6.out GOK.out hkr hkc
  obtain ⟨d,hd⟩:∃ d,g.r[i'].cells[x]=d:=⟨_,rfl⟩
  rw [hd] at g0 g1 g2'
  obtain ⟨b0,b1,b2⟩:=cell_box CB.out
  obtain ⟨X,hX⟩:∃ X,newerB d b=X:=⟨_,rfl⟩
  have hjl:j<L.length:=by rw [LM.out]; exact hjm
  have HT:=Lib.hid (show bestL x (L.take (j+1))=if X then d else b from by
   have e:L[j].get x=d:=by
    have e2:L[j]=g.r[i']:=by
     have:=hLj
     rw [List.getElem?_eq_getElem hjl] at this
     simpa [hkr] using this
    rw [e2,Rp.get_at hkc,hd]
   rw [bestL_take hjl,e,BB.out,hX])
  have NW:=Lib.hid (fun (w:World)=>newer_x hX w)
  have hNU:U<wr.heap.size:=by have:=UB9.out; omega
  have hbk2:bb<wr.heap.size:=Nat.lt_of_lt_of_le hbk HB.out.size
  have hq:=bregrown (Below.refl wr.heap.size wr)
  have RCF:=Lib.hid (show ∀ w':World,w'.heap[U]?=some (.cells g.arr 60 (0,0))→w'.rangeAt U (i'*25+1+x*3) d.cells.toList from fun w' h=>hd▸gp_rangeC h GOK.out hkr hkc)
  clear hd hX hkr hkc hLj hjl hxe hcell
  go_upto_region 24 with fail
  go_cut [97] (fun v wx=>v=.bool X∧RowKit.Below wr.heap.size wr wx)
  case first =>
   refine wp_region_quiet_below (by kernel_rfl) (by kernel_rfl) ?_
   repeat (go_big_quiet_step (exact Calls.regrown_of (NW.out _)))
   refine wpQuiet_nil ?_
   rintro w' ⟨⟨dq,osq⟩,rfl⟩
   go_wp2_with fail
   go_meet
   exact ⟨rfl,below_regrown _ dq osq⟩
  case rest =>
   obtain ⟨wp,rfl⟩:∃ wo:World,wo=wr:=⟨_,rfl⟩
   obtain ⟨rfl,b4⟩:=hcut
   have HB7:=Lib.hid (HB.out.trans (Keeps.of_below b4))
   have CB7:=Lib.hid ((b4.block B hNB).trans CB.out)
   have G7:=Lib.hid ((b4.block U hNU).trans G6.out)
   have c7:=(b4.cell (p:=⟨bb,oo+j,none⟩) hbk2).trans c0
   clear b4 hq
   cases X
   ·go_wp2
    go_roundw
    case rel=>exact ⟨j+1,by omega,by go_num,by rw [HT.out]; exact CB7.out,HB7.out⟩
    case measure=>simp [intOf]; omega
   ·have KB5:=Lib.hid (HB7.out.trans ((Keeps.refl (·=B) wc).setRow (g:=B) rfl d.cells))
    go_wp2_with (first | ((with_reducible refine ld_mid1 rfl 30 _ rfl ?_); refine ⟨U,i'*25+1+x*3,d.cells,_,rfl,RCF.out _ G7.out,cell_row.1,rfl,cell_row.2,?_⟩) | ((with_reducible refine st_row1 rfl 30 _ _ rfl ?_); refine ⟨B,_,d.cells,_,rfl,rfl,CB7.out,cell_row.2,rfl,cel_one _,?_⟩))
    go_roundw
    case rel=>exact ⟨j+1,by omega,by go_num,by rw [HT.out]; exact setRow_heap _ _ _ _ _ _ CB7.out,KB5.out⟩
    case measure=>simp [intOf]; omega
 ·obtain rfl:j=m:=by omega
  rw [List.take_of_length_le (by rw [LM.out]; exact Nat.le_refl _)] at BB
  have hk2:k<g2.r.length:=by rw [GOK2.out.r3]; exact HK3.out
  have hkc2:x<g2.r[k].cells.length:=by rw [GOK2.out.c8 _ (List.getElem_mem hk2)]; exact hx8
  have HD:=Lib.hid (show g2.r[k].cells[x]=b from by
   have e:=HVAL.out x hx8
   rw [BB.out] at e
   unfold valG at e
   rw [← e]
   simp [hk2,Rp.get_at hkc2])
  have RN:=Lib.hid (fun w' (bw:RowKit.Below wr.heap.size wr w')=>show w'.rangeAt U2 (k*25+1+x*3) b.cells.toList from HD.out▸gp_rangeC ((bw.block U2 (Array.getElem?_eq_some_iff.1 N6.out).1).trans N6.out) GOK2.out hk2 hkc2)
  have RC:=Lib.hid (fun w' (bw:RowKit.Below wr.heap.size wr w')=>range_of ((bw.block B hNB).trans CB.out))
  have NE:=Lib.hid (fun w=>(neq_cell b b w).trans (show _=Result.ok (.bool false) w from by simp))
  have BF:=Lib.hid (show RowKit.Below w8.heap.size w8 wr from BX.out.trans ((B10.out.trans (HB.out.below (B:=B) (by have:=B10.out.size; have:=HBB.out; omega) (fun q e=>by omega))).mono (by have:=BX.out.size; have:=HBB.out; omega)))
  clear hk2 hkc2 HD
  go_upto_region 26 with fail
  go_cut [116] (fun v wx=>v=.bool false∧RowKit.Below wr.heap.size wr wx)
  case first =>
   obtain ⟨S',hS⟩:∃ S':World→Prop,S'=fun w'=>RowKit.Below wr.heap.size wr w':=⟨_,rfl⟩
   have S3:∀ w',RowKit.Below wr.heap.size wr w'→S' w':=fun w' h=>by rw [hS]; exact h
   have S4:∀ w',S' w'→RowKit.Below wr.heap.size wr w':=fun w' h=>by rw [hS] at h; exact h
   clear hS
   refine wp_region_held_drew (S:=S') (by kernel_rfl) (S3 _ (Below.refl _ _).drew) (fun hHeld=>?_)
   obtain ⟨wd,hwd⟩:∃ wd,wd=wr.drew:=⟨_,rfl⟩
   rw [← hwd] at hHeld ⊢
   clear hwd
   refine wt 0 (.int .i64 k) rfl (by kernel_rfl) (Or.inl ⟨by rfl,fun w' hSw=>by go_simp⟩) hHeld ?_
   simp only [Act.put,getElem_toArray,getElem_cons_zero,setIfInBounds_toArray,set_cons_zero,set_cons_succ]
   refine wt 1 (.int .i64 x) rfl (by kernel_rfl) (Or.inl ⟨by rfl,fun w' hSw=>by go_simp⟩) hHeld ?_
   simp only [Act.put,getElem_toArray,getElem_cons_zero,getElem_cons_succ,setIfInBounds_toArray,set_cons_zero,set_cons_succ]
   refine wt 2 (.pointer (some ⟨U2,0,none⟩)) rfl (by kernel_rfl) (Or.inl ⟨by rfl,fun w' hSw=>by go_simp⟩) hHeld ?_
   simp only [Act.put,getElem_toArray,getElem_cons_zero,getElem_cons_succ,setIfInBounds_toArray,set_cons_zero,set_cons_succ]
   refine wt 3 (.pointer (some ⟨U2,k*25,none⟩)) rfl (by kernel_rfl) (Or.inl ⟨by rfl,fun w' hSw=>by go_simp⟩) hHeld ?_
   simp only [Act.put,getElem_toArray,getElem_cons_zero,getElem_cons_succ,setIfInBounds_toArray,set_cons_zero,set_cons_succ]
   refine wt 4 (.pointer (some ⟨U2,k*25+1,none⟩)) rfl (by kernel_rfl) (Or.inl ⟨by rfl,fun w' hSw=>by go_simp⟩) hHeld ?_
   simp only [Act.put,getElem_toArray,getElem_cons_zero,getElem_cons_succ,setIfInBounds_toArray,set_cons_zero,set_cons_succ]
   refine wt 5 (.pointer (some ⟨U2,k*25+1+x*3,none⟩)) rfl (by kernel_rfl) (Or.inl ⟨by rfl,fun w' hSw=>by go_simp⟩) hHeld ?_
   simp only [Act.put,getElem_toArray,getElem_cons_zero,getElem_cons_succ,setIfInBounds_toArray,set_cons_zero,set_cons_succ]
   refine wt 6 (.agg b.cells) rfl (by kernel_rfl) (yieldsIf_load_midA (by rfl) 30 _ rfl U2 (k*25+1+x*3) rfl b.cells _ (fun w' h=>RN.out w' (S4 w' h)) cell_row.1 rfl cell_row.2) hHeld ?_
   simp only [Act.put,getElem_toArray,getElem_cons_zero,getElem_cons_succ,setIfInBounds_toArray,set_cons_zero,set_cons_succ]
   refine wt 7 (.agg b.cells) rfl (by kernel_rfl) (yieldsIf_load_midA (by rfl) 30 _ rfl B 0 rfl b.cells _ (fun w' h=>RC.out w' (S4 w' h)) cell_row.1 rfl cell_row.2) hHeld ?_
   simp only [Act.put,getElem_toArray,getElem_cons_zero,getElem_cons_succ,setIfInBounds_toArray,set_cons_zero,set_cons_succ]
   refine wt 8 (.bool false) rfl (by kernel_rfl) (yieldsIf_bin (by rfl) .neq 30 _ _ _ rfl b.cells b.cells rfl rfl eqg_cell _ NE.out) hHeld ?_
   simp only [Act.put,getElem_toArray,getElem_cons_zero,getElem_cons_succ,setIfInBounds_toArray,set_cons_zero,set_cons_succ]
   refine wpAnyH_done (by kernel_rfl) ?_ _
   go_wp2_with fail
   go_meet
   exact ⟨rfl,S4 _ hHeld⟩
  case rest =>
   obtain ⟨wp,rfl⟩:∃ wo:World,wo=wr:=⟨_,rfl⟩
   obtain ⟨rfl,b4⟩:=hcut
   have BG:=Lib.hid (BF.out.trans (b4.mono BF.out.size))
   clear b4
   go_wp2
   go_roundw
   case rel=>exact ⟨x+1,by omega,by go_num,BG.out⟩
   case measure=>simp [intOf]; omega
end Go.Proofs.YtajegiifabfcjaaGreatDoor
