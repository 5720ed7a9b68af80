/-
  Equality of groups and of messages; contract: SameMessages of two that are the same.
-/
import Derived.Test.YtajegiifabfcjaaGreatDoorQ27
namespace Go.Proofs.YtajegiifabfcjaaGreatDoor
open List (getElem_toArray getElem_cons_zero getElem_cons_succ setIfInBounds_toArray set_cons_zero set_cons_succ)
open Go.RowKit Go.Sort
theorem yieldsIf_bin {P:Program} {ops:Array Oper} {S:World→Prop} {op:Oper} {a:Act} (hw:Region.wanted op (yielded ops a.tmps)=true) (bo:BinOp) (t u:TypeId) (x y:Operand) (ho:op.op=.binOp bo t x y u) (xs ys:Array Value)
  (hx:a.eval x=.agg xs) (hy:a.eval y=.agg ys) (hm:P.eqGuardType P.depth t=false) (v:Value) (hb:∀ w,(binOp bo t (.agg xs) (.agg ys)).run P w=.ok v w):YieldsIf P ops S op v a:=by
 refine .inl ⟨hw,fun w _=>?_⟩
 unfold execOp
 simp only [ho,hx,hy,Sem.run_bind,Sem.run_pure,Result.andThen_ok,run_eqGuard_agg _ bo t x y xs ys hm,hb]
theorem rs_row:Tryz.prog.underlying 57=some (.array 3 56)∧(Tryz.prog.info? 57).map (·.size)=some 75:=by constructor <;> kernel_rfl
theorem us_row:Tryz.prog.underlying 58=some (.array 3 4)∧(Tryz.prog.info? 58).map (·.size)=some 3∧(Tryz.prog.info? 4).map (·.size)=some 1∧Tryz.prog.plainKey 4=true∧Tryz.prog.underlying 4=some .bool:=by refine ⟨?_,?_,?_,?_,?_⟩ <;> kernel_rfl
theorem gp_fields : Tryz.prog.stoodInHeld 60 = false ∧ ((Tryz.prog.fieldsOf 60).toList.map fun f => (f.name, f.type, f.offset)) = [("R", 57, 0), ("Up", 58, 75)] := by constructor <;> kernel_rfl
theorem flatR_extract {l:List Rp} (h8:∀ r∈l,r.cells.length=8) {i:Nat} (h:i<l.length):(flatR l).toArray.extract (i*25) (i*25+25)=l[i].arr:=by
 have hz:=Rp.size (h8 _ (List.getElem_mem h))
 have hl:=flatR_length l h8
 apply Array.ext
 ·simp; omega
 ·intro j h1 h2
  have hj:j<25:=by omega
  have:=flatR_at l h8 i h j hj
  rw [Array.getElem_extract,List.getElem_toArray,← Option.some.injEq,← List.getElem?_eq_getElem,this,Array.getElem?_eq_getElem h2]
theorem list3_eq {α:Type} [DecidableEq α] {l m:List α} (hl:l.length=3) (hm:m.length=3):((List.range 3).all fun i=>decide (l[i]?=m[i]?))=decide (l=m):=by
 rw [Bool.eq_iff_iff,List.all_eq_true,decide_eq_true_eq]
 constructor
 ·intro h
  apply List.ext_getElem?
  intro i
  by_cases hi:i<3
  ·simpa using h i (List.mem_range.2 hi)
  ·rw [List.getElem?_eq_none (by omega),List.getElem?_eq_none (by omega)]
 ·rintro rfl i _; simp
instance:DecidableEq Rp:=fun a b=>decidable_of_iff (a.floor=b.floor∧a.cells=b.cells) ⟨Rp.ext',fun h=>by rw [h]; exact ⟨rfl,rfl⟩⟩
theorem eqRp_dec (a b:Rp):eqRp a b=decide (a=b):=by
 unfold eqRp
 rw [Bool.eq_iff_iff,decide_eq_true_eq,decide_eq_true_eq]
 exact ⟨Rp.ext',fun h=>by rw [h]; exact ⟨rfl,rfl⟩⟩
theorem eq_rs (d:Nat) (l m:List Rp) (hl:l.length=3) (hm:m.length=3) (cl:∀ r∈l,r.cells.length=8) (cm:∀ r∈m,r.cells.length=8) (w:World) :
  (Op.equalIn (d+5) 57 (.agg (flatR l).toArray) (.agg (flatR m).toArray)).run Tryz.prog w=.ok (decide (l=m)) w:=by
 rw [← list3_eq hl hm]
 refine eq_array (d+4) 57 56 3 25 _ _ w rs_row.1 rp_row.2.1 (fun i=>if h:i<l.length then .agg l[i].arr else undef) (fun i=>if h:i<m.length then .agg m[i].arr else undef) _ ?_
 intro i hi
 have h1:i<l.length:=by omega
 have h2:i<m.length:=by omega
 rw [part_agg w rp_row.1 rfl rp_row.2.1,part_agg w rp_row.1 rfl rp_row.2.1,flatR_extract cl h1,flatR_extract cm h2]
 simp only [dif_pos h1,dif_pos h2]
 refine ⟨trivial,trivial,?_⟩
 rw [eq_rp d l[i] m[i] (cl _ (List.getElem_mem h1)) (cm _ (List.getElem_mem h2)) w,eqRp_dec]
 refine congrArg (fun b=>Result.ok b w) ?_
 rw [List.getElem?_eq_getElem h1,List.getElem?_eq_getElem h2]
 simp
theorem eq_us (d:Nat) (l m:List Bool) (hl:l.length=3) (hm:m.length=3) (w:World) :
  (Op.equalIn (d+2) 58 (.agg (l.map Value.bool).toArray) (.agg (m.map Value.bool).toArray)).run Tryz.prog w=.ok (decide (l=m)) w:=by
 rw [← list3_eq hl hm]
 refine eq_array (d+1) 58 4 3 1 _ _ w us_row.1 us_row.2.2.1 (fun i=>.bool (l.getD i false)) (fun i=>.bool (m.getD i false)) _ ?_
 intro i hi
 have h1:i<l.length:=by omega
 have h2:i<m.length:=by omega
 refine ⟨run_part_plain w us_row.2.2.2.1 (by simp [h1]),run_part_plain w us_row.2.2.2.1 (by simp [h2]),?_⟩
 rw [run_equalIn_bool w d _ _ _ us_row.2.2.2.2]
 refine congrArg (fun b=>Result.ok b w) ?_
 simp [List.getD_eq_getElem?_getD,h1,h2]
 cases l[i] <;> cases m[i] <;> rfl
theorem Gp.ext2 {g h:Gp} (e:g.r=h.r∧g.u=h.u):g=h:=by cases g; cases h; simp_all
instance:DecidableEq Gp:=fun a b=>decidable_of_iff (a.r=b.r∧a.u=b.u) ⟨Gp.ext2,fun h=>by rw [h]; exact ⟨rfl,rfl⟩⟩
theorem eq_gp (d:Nat) {g h:Gp} (hg:g.ok) (hh:h.ok) (w:World):(Op.equalIn (d+6) 60 (.agg g.arr) (.agg h.arr)).run Tryz.prog w=.ok (decide (g=h)) w:=by
 have x1:∀ {g:Gp},g.ok→g.arr.extract 0 (0+75)=(flatR g.r).toArray:=by
  intro g hg
  have hl:=flatR_length g.r hg.c8
  apply Array.toList_inj.1
  unfold Gp.arr
  simp only [Array.toList_extract,List.extract_eq_take_drop,List.drop_zero,Nat.zero_add,Nat.sub_zero]
  rw [List.take_append_of_le_length (by have:=hg.r3; omega),List.take_of_length_le (by have:=hg.r3; omega)]
 have x2:∀ {g:Gp},g.ok→g.arr.extract 75 (75+3)=(g.u.map Value.bool).toArray:=by
  intro g hg
  have hl:=flatR_length g.r hg.c8
  have h3:=hg.r3
  have h4:=hg.u3
  apply Array.toList_inj.1
  unfold Gp.arr
  simp only [Array.toList_extract,List.extract_eq_take_drop]
  rw [List.drop_append_of_le_length (by omega),List.drop_of_length_le (by omega),List.nil_append,List.take_of_length_le (by simp; omega)]
 have:=eq_struct (d+5) 60 g.arr h.arr w gp_row.1 gp_fields.1 _ gp_fields.2 (fun o=>if o=0 then decide (g.r=h.r) else decide (g.u=h.u)) ?_
 ·rw [this]
  refine congrArg (fun b=>Result.ok b w) ?_
  rw [Bool.eq_iff_iff,decide_eq_true_eq]
  simp
  exact ⟨Gp.ext2,fun h=>by rw [h]; exact ⟨rfl,rfl⟩⟩
 ·intro s hs
  simp only [List.mem_cons,List.mem_nil_iff,or_false] at hs
  rcases hs with rfl | rfl
  ·refine ⟨by decide,_,_,part_agg w rs_row.1 rfl rs_row.2,part_agg w rs_row.1 rfl rs_row.2,?_⟩
   rw [x1 hg,x1 hh]
   exact eq_rs d g.r h.r hg.r3 hh.r3 hg.c8 hh.c8 w
  ·refine ⟨by decide,_,_,part_agg w us_row.1 rfl us_row.2.1,part_agg w us_row.1 rfl us_row.2.1,?_⟩
   rw [x2 hg,x2 hh]
   exact eq_us (d+3) g.u h.u hg.u3 hh.u3 w
theorem eql_gp {g h:Gp} (hg:g.ok) (hh:h.ok) (w:World):(binOp .eql 60 (.agg g.arr) (.agg h.arr)).run Tryz.prog w=.ok (.bool (decide (g=h))) w:=by
 rw [run_eql_struct,eq_gp 9994 hg hh]; rfl
theorem eqg_gp:Tryz.prog.eqGuardType Tryz.prog.depth 60=false:=by kernel_rfl
theorem ms_fields:Tryz.prog.underlying 125=some (.struct (Tryz.prog.fieldsOf 125))∧Tryz.prog.stoodInHeld 125=false ∧
  ((Tryz.prog.fieldsOf 125).toList.map fun f => (f.name, f.type, f.offset)) = [("To", 3, 0), ("At", 3, 1), ("Cell", 30, 2), ("Tag", 3, 5)] := by
 refine ⟨?_,?_,?_⟩ <;> kernel_rfl
theorem eqg_ms:Tryz.prog.eqGuardType Tryz.prog.depth 125=false:=by kernel_rfl
def msA (m:Ms):Array Value:=#[.int .i64 m.tt,.int .i64 m.at',.int .i64 m.c.e,.int .i64 m.c.n,.string m.c.d,.int .i64 m.tag]
theorem neq_ms (m:Ms) (w:World):(binOp .neq 125 (.agg (msA m)) (.agg (msA m))).run Tryz.prog w=.ok (.bool false) w:=by
 have:=eq_struct 9999 125 (msA m) (msA m) w ms_fields.1 ms_fields.2.1 _ ms_fields.2.2 (fun _=>true) ?_
 ·rw [run_neq_struct,this]; rfl
 ·intro s hs
  simp only [List.mem_cons,List.mem_nil_iff,or_false] at hs
  have hi:∀ (x:Int),(Op.equalIn 9999 3 (.int .i64 x) (.int .i64 x)).run Tryz.prog w=.ok true w:=fun x=>by rw [run_equalIn_int w 9998 _ _ _ _ _ under_int.1]; simp
  rcases hs with rfl | rfl | rfl | rfl
  ·exact ⟨by decide,_,_,run_part_plain w plain_int.1 rfl,run_part_plain w plain_int.1 rfl,hi _⟩
  ·exact ⟨by decide,_,_,run_part_plain w plain_int.1 rfl,run_part_plain w plain_int.1 rfl,hi _⟩
  ·refine ⟨by decide,_,_,part_agg w cell_row.1 rfl cell_row.2,part_agg w cell_row.1 rfl cell_row.2,?_⟩
   have e:(msA m).extract 2 (2+3)=#[.int .i64 m.c.e,.int .i64 m.c.n,.string m.c.d]:=rfl
   rw [e]
   exact (eq_cell 9997 m.c m.c w).trans (by simp)
  ·exact ⟨by decide,_,_,run_part_plain w plain_int.1 rfl,run_part_plain w plain_int.1 rfl,hi _⟩
theorem ms_cells {B:Nat} {w:World} {l:List Ms} {a:Option Addr} {cap:Nat} (hr:OwnM B w (.slice a l.length cap) l) {k:Nat} (hlt:k<l.length):∃ g,a=some ⟨g,0,none⟩∧g<w.heap.size∧w.cell? ⟨g,k*6,none⟩=some (.int .i64 l[k].tt)∧w.cell? ⟨g,k*6+1,none⟩=some (.int .i64 l[k].at')∧w.cell? ⟨g,k*6+2,none⟩=some (.int .i64 l[k].c.e)∧w.cell? ⟨g,k*6+3,none⟩=some (.int .i64 l[k].c.n)∧w.cell? ⟨g,k*6+4,none⟩=some (.string l[k].c.d)∧w.cell? ⟨g,k*6+5,none⟩=some (.int .i64 l[k].tag):=by
 obtain ⟨-,h2 | ⟨g,cap',cur,e1,e2,e3,-⟩⟩:=id hr
 ·exact absurd h2.2 (by omega)
 obtain ⟨rfl,rfl⟩:a=some ⟨g,0,none⟩∧cap=cap':=by simpa using e1
 have hg:=(Array.getElem?_eq_some_iff.1 e3).1
 have c:∀ j v,j<6→l[k].row[j]?=some v→w.cell? ⟨g,k*6+j,none⟩=some v:=fun j v hj hv=>by
  have:=OwnM.cells hr (k*6+j) v (by rw [msg_at hlt j hj,hv])
  rwa [Addr.add_lit,Nat.zero_add] at this
 exact ⟨g,rfl,hg,c 0 _ (by omega) rfl,c 1 _ (by omega) rfl,c 2 _ (by omega) rfl,c 3 _ (by omega) rfl,c 4 _ (by omega) rfl,c 5 _ (by omega) rfl⟩
theorem OwnM.shape {B:Nat} {w:World} {v:Value} {l:List Ms} (h:OwnM B w v l):∃ a cap,v=.slice a l.length cap:=by
 obtain ⟨-,h2 | ⟨g,cap,cur,e1,-⟩⟩:=h
 ·exact ⟨none,0,by rw [h2.1,h2.2]⟩
 ·exact ⟨_,_,e1⟩
set_option maxRecDepth 100000 in
set_option maxHeartbeats 4000000 in
theorem samemsgs_true (B B':Nat) (l:List Ms) (a a':Option Addr) (c c':Nat) (w:World) (hl:l.length≤1000) (h1:OwnM B w (.slice a l.length c) l) (h2:OwnM B' w (.slice a' l.length c') l) :
  Calls Tryz.prog 35 #[.slice a l.length c,.slice a' l.length c'] w fun e w'=>e=.returned (.bool true)∧Below w.heap.size w w':=by
 have H1:=Lib.hid h1
 have H2:=Lib.hid h2
 clear h1 h2
 go_enter Tryz.func35,Tryz.ntmps35
 go_wp2
 go_loopw [5] (fun i wr=>∃ k:Nat,k≤l.length∧i=.int .i64 k∧Below w.heap.size w wr) (fun i _=>l.length - (intOf i).toNat)
 case atStart=>exact ⟨0,by omega,rfl,Below.refl _ _⟩
 case round =>
  obtain ⟨k,hk,rfl,hbw⟩:=hrel
  have HB:=Lib.hid hbw
  clear hbw
  by_cases hlt:k<l.length
  ·obtain ⟨g,rfl,hg,a0,a1,a2,a3,a4,a5⟩:=ms_cells H1.out hlt
   obtain ⟨g',rfl,hg',b0,b1,b2,b3,b4,b5⟩:=ms_cells H2.out hlt
   obtain ⟨m,hm⟩:∃ m,l[k]=m:=⟨_,rfl⟩
   rw [hm] at a0 a1 a2 a3 a4 a5 b0 b1 b2 b3 b4 b5
   have CA:=Lib.hid (fun w' (b:Below wr.heap.size wr w')=>show w'.cell? ⟨g,k*6,none⟩=some (.int .i64 m.tt)∧w'.cell? ⟨g,k*6+1,none⟩=some (.int .i64 m.at')∧w'.cell? ⟨g,k*6+2,none⟩=some (.int .i64 m.c.e)∧w'.cell? ⟨g,k*6+3,none⟩=some (.int .i64 m.c.n)∧w'.cell? ⟨g,k*6+4,none⟩=some (.string m.c.d)∧w'.cell? ⟨g,k*6+5,none⟩=some (.int .i64 m.tag) from by
    have bb:Below w.heap.size w w':=HB.out.trans (b.mono HB.out.size)
    exact ⟨(bb.cell (p:=⟨g,_,none⟩) hg).trans a0,(bb.cell (p:=⟨g,_,none⟩) hg).trans a1,(bb.cell (p:=⟨g,_,none⟩) hg).trans a2,(bb.cell (p:=⟨g,_,none⟩) hg).trans a3,(bb.cell (p:=⟨g,_,none⟩) hg).trans a4,(bb.cell (p:=⟨g,_,none⟩) hg).trans a5⟩)
   have CB:=Lib.hid (fun w' (b:Below wr.heap.size wr w')=>show w'.cell? ⟨g',k*6,none⟩=some (.int .i64 m.tt)∧w'.cell? ⟨g',k*6+1,none⟩=some (.int .i64 m.at')∧w'.cell? ⟨g',k*6+2,none⟩=some (.int .i64 m.c.e)∧w'.cell? ⟨g',k*6+3,none⟩=some (.int .i64 m.c.n)∧w'.cell? ⟨g',k*6+4,none⟩=some (.string m.c.d)∧w'.cell? ⟨g',k*6+5,none⟩=some (.int .i64 m.tag) from by
    have bb:Below w.heap.size w w':=HB.out.trans (b.mono HB.out.size)
    exact ⟨(bb.cell (p:=⟨g',_,none⟩) hg').trans b0,(bb.cell (p:=⟨g',_,none⟩) hg').trans b1,(bb.cell (p:=⟨g',_,none⟩) hg').trans b2,(bb.cell (p:=⟨g',_,none⟩) hg').trans b3,(bb.cell (p:=⟨g',_,none⟩) hg').trans b4,(bb.cell (p:=⟨g',_,none⟩) hg').trans b5⟩)
   clear hm a0 a1 a2 a3 a4 a5 b0 b1 b2 b3 b4 b5 hg hg'
   go_upto_region 6 with fail
   go_cut [25] (fun v wx=>v=.bool false∧Below wr.heap.size wr wx)
   case first =>
    obtain ⟨S,hS⟩:∃ S:World→Prop,S=fun w'=>Below wr.heap.size wr w':=⟨_,rfl⟩
    have S3:∀ w',Below wr.heap.size wr w'→S w':=fun w' h=>by rw [hS]; exact h
    have S4:∀ w',S w'→Below wr.heap.size wr w':=fun w' h=>by rw [hS] at h; exact h
    clear hS
    refine wp_region_held_drew (S:=S) (by kernel_rfl) (S3 _ (Below.refl _ _).drew) (fun hHeld=>?_)
    obtain ⟨wd,hwd⟩:∃ wd,wd=wr.drew:=⟨_,rfl⟩
    rw [← hwd] at hHeld ⊢
    clear hwd
    refine wt 0 (.slice (some ⟨g,0,none⟩) l.length c) rfl (by kernel_rfl) (Or.inl ⟨by rfl,fun w' hSw=>by go_simp⟩) hHeld ?_
    simp only [Act.put,getElem_toArray,getElem_cons_zero,setIfInBounds_toArray,set_cons_zero,set_cons_succ]
    refine wt 1 (.int .i64 k) rfl (by kernel_rfl) (Or.inl ⟨by rfl,fun w' hSw=>by go_simp⟩) hHeld ?_
    simp only [Act.put,getElem_toArray,getElem_cons_zero,getElem_cons_succ,setIfInBounds_toArray,set_cons_zero,set_cons_succ]
    refine wt 2 (.pointer (some ⟨g,k*6,none⟩)) rfl (by kernel_rfl) (Or.inl ⟨by rfl,fun w' hSw=>by go_simp⟩) hHeld ?_
    simp only [Act.put,getElem_toArray,getElem_cons_zero,getElem_cons_succ,setIfInBounds_toArray,set_cons_zero,set_cons_succ]
    refine wt 3 (.agg (msA m)) rfl (by kernel_rfl) (Or.inl ⟨by rfl,fun w' hSw=>by obtain ⟨q0,q1,q2,q3,q4,q5⟩:=CA.out w' (S4 w' hSw); unfold msA; go_simp⟩) hHeld ?_
    simp only [Act.put,getElem_toArray,getElem_cons_zero,getElem_cons_succ,setIfInBounds_toArray,set_cons_zero,set_cons_succ]
    refine wt 4 (.slice (some ⟨g',0,none⟩) l.length c') rfl (by kernel_rfl) (Or.inl ⟨by rfl,fun w' hSw=>by go_simp⟩) hHeld ?_
    simp only [Act.put,getElem_toArray,getElem_cons_zero,getElem_cons_succ,setIfInBounds_toArray,set_cons_zero,set_cons_succ]
    refine wt 5 (.int .i64 k) rfl (by kernel_rfl) (Or.inl ⟨by rfl,fun w' hSw=>by go_simp⟩) hHeld ?_
    simp only [Act.put,getElem_toArray,getElem_cons_zero,getElem_cons_succ,setIfInBounds_toArray,set_cons_zero,set_cons_succ]
    refine wt 6 (.pointer (some ⟨g',k*6,none⟩)) rfl (by kernel_rfl) (Or.inl ⟨by rfl,fun w' hSw=>by go_simp⟩) hHeld ?_
    simp only [Act.put,getElem_toArray,getElem_cons_zero,getElem_cons_succ,setIfInBounds_toArray,set_cons_zero,set_cons_succ]
    refine wt 7 (.agg (msA m)) rfl (by kernel_rfl) (Or.inl ⟨by rfl,fun w' hSw=>by obtain ⟨q0,q1,q2,q3,q4,q5⟩:=CB.out w' (S4 w' hSw); unfold msA; go_simp⟩) hHeld ?_
    simp only [Act.put,getElem_toArray,getElem_cons_zero,getElem_cons_succ,setIfInBounds_toArray,set_cons_zero,set_cons_succ]
    refine wt 8 (.bool false) rfl (by kernel_rfl) (yieldsIf_bin (by rfl) .neq 125 _ _ _ rfl (msA m) (msA m) rfl rfl eqg_ms _ (fun w=>neq_ms m w)) hHeld ?_
    simp only [Act.put,getElem_toArray,getElem_cons_zero,getElem_cons_succ,setIfInBounds_toArray,set_cons_zero,set_cons_succ]
    refine wpAnyH_done (by kernel_rfl) ?_ _
    go_wp2_with fail
    go_meet
    exact ⟨rfl,S4 _ hHeld⟩
   case rest =>
    obtain ⟨wo,rfl⟩:∃ wo:World,wo=wr:=⟨_,rfl⟩
    obtain ⟨rfl,b4⟩:=hcut
    have HB4:=Lib.hid (HB.out.trans (b4.mono HB.out.size))
    clear b4
    go_wp2
    go_roundw
    case rel=>exact ⟨k+1,by omega,by go_num,HB4.out⟩
    case measure=>simp [intOf]; omega
  ·go_wp2
   go_ret
   exact ⟨rfl,HB.out⟩
end Go.Proofs.YtajegiifabfcjaaGreatDoor
