/-
  Admit, NewR, Row, Open, OpenR, Merge
-/
import Derived.Test.YtbkmdmmgalmmaaaGreatDoorQ03
import Derived.Deep.DeepCutAuto
import Derived.RegionTactic
import Derived.BigQuiet
import Derived.Deep.RegionLaw
import Derived.Deep.RegionHeld3
import Derived.StillTailTactics
import Derived.Deep.QuietTactic
import Derived.Test.YtbkmdmmgalmmaaaGreatDoorQ01
import Derived.ProofKit
import Derived.OpenShut
import Derived.Deep.Slices
import Derived.Deep.Fields
import Derived.ChangeSame
import Derived.Deep.MidRow
namespace Go.Proofs.YtbkmdmmgalmmaaaGreatDoor
open Go.RowKit Go.Sort
theorem newer_any (a b:Cel) (w:World):Calls Tryz.prog 96 #[a.v,b.v] w fun e w'=>e=.returned (.bool (newerB a b))∧Below w.heap.size w w':=by
 obtain ⟨ae,an,ad⟩:=a
 obtain ⟨be,bn,bd⟩:=b
 by_cases h1:be<ae
 ·have HN:=Lib.hid (show newerB ⟨ae,an,ad⟩ ⟨be,bn,bd⟩=true from by simp [newerB,h1])
  go_enter Tryz.func96,Tryz.ntmps96
  go_wp2
  go_ret
  exact ⟨ret_bool HN.out.symm,(bal w _).alloc (by simp) _⟩
 ·by_cases h2:ae=be
  ·have e2:(ae == be)=true:=by simp [h2]
   have HN:=Lib.hid (show newerB ⟨ae,an,ad⟩ ⟨be,bn,bd⟩=decide (bn<an) from by simp [newerB,h2])
   clear h2
   go_enter Tryz.func96,Tryz.ntmps96
   go_wp2
   go_ret
   exact ⟨ret_bool HN.out.symm,(bal w _).alloc (by simp) _⟩
  ·have e2:(ae == be)=false:=by simp [h2]
   have HN:=Lib.hid (show newerB ⟨ae,an,ad⟩ ⟨be,bn,bd⟩=false from by simp [newerB,h1,h2])
   clear h2
   go_enter Tryz.func96,Tryz.ntmps96
   go_wp2
   go_ret
   exact ⟨ret_bool HN.out.symm,(bal w _).alloc (by simp) _⟩
def Rp.get (r:Rp) (k:Nat):Cel:=r.cells.getD k Cel.zero
def Rp.admitC (r:Rp) (k:Nat) (c:Cel):Rp:=if c.e=r.floor∧newerB c (r.get k)=true then ⟨r.floor,r.cells.set k c⟩ else r
theorem Rp.admit_len (r:Rp) (k:Nat) (c:Cel):(r.admitC k c).cells.length=r.cells.length:=by
 unfold Rp.admitC; split <;> simp
theorem Rp.get_at {r:Rp} {k:Nat} (h:k<r.cells.length):r.get k=r.cells[k]:=by simp [Rp.get,h]
def Rp.fence (r:Rp) (epoch:Int):Rp:=if r.floor=epoch - 1 then ⟨epoch,r.cells⟩ else r
theorem results_row_tmp {P:Program} {fn:Func} {p q:Tmp} {ty:TypeId} (h:fn.results=#[.cell p ty,.tmp q]) (tmps:Array Value) (w:World) (g:Nat) (t:TypeId) (cs:Array Value) (fr:Nat × Nat) (d:TypeDesc) (v:Value)
  (hp:tmps.getD p undef=.pointer (some ⟨g,0,none⟩)) (hv:tmps.getD q undef=v) (hg:w.heap[g]?=some (.cells cs t fr))
  (hu:P.underlying ty=some d) (hd:(match d with | .struct _ | .array _ _=>true | _=>false)=true) (hi:(P.info? ty).map (·.size)=some cs.size) :
  (results fn tmps).run P w=.ok (.tuple #[.agg cs,v]) w:=by
 have hp':tmps[p]?.getD undef=.pointer (some ⟨g,0,none⟩):=by simpa using hp
 have hv':tmps[q]?.getD undef=v:=by simpa using hv
 simp [results,h,hp',hv',asAddr,run_loadVar_row w g t ty cs fr d hg hu hd hi]
theorem rp_zero_arr:Rp.zero.arr=#[.int .i64 0,.int .i64 0,.int .i64 0,.string ⟨#[]⟩,.int .i64 0,.int .i64 0,.string ⟨#[]⟩,.int .i64 0,.int .i64 0,.string ⟨#[]⟩,.int .i64 0,.int .i64 0,.string ⟨#[]⟩,.int .i64 0,.int .i64 0,.string ⟨#[]⟩,.int .i64 0,.int .i64 0,.string ⟨#[]⟩,.int .i64 0,.int .i64 0,.string ⟨#[]⟩,.int .i64 0,.int .i64 0,.string ⟨#[]⟩]:=rfl
theorem Keeps.setRow {S:Nat→Prop} {a w:World} (h:Keeps S a w) {g:Nat} (hg:S g) (cs:Array Value):Keeps S a (w.setRow g cs) :=
 h.trans ⟨rfl,rfl,rfl,by simp,fun k hk _=>setRow_other w g k cs (fun e=>hk (e▸hg))⟩
theorem bal3a (w:World) (o p q:Obj):Below w.heap.size w (((w.alloc o).alloc p).alloc q):=((bal w o).alloc (by simp) p).alloc (by simp; omega) q
theorem cell_box {w:World} {b:Nat} {c:Cel} {T:TypeId} (h:w.heap[b]?=some (.cells #[.int .i64 c.e,.int .i64 c.n,.string c.d] T (0,0))):w.cell? ⟨b,0,none⟩=some (.int .i64 c.e)∧w.cell? ⟨b,1,none⟩=some (.int .i64 c.n)∧w.cell? ⟨b,2,none⟩=some (.string c.d):=by
 simp [World.cell?,h]
theorem rp_cell {w:World} {b k:Nat} {r:Rp} {T:TypeId} (h:w.heap[b]?=some (.cells r.arr T (0,0))) (hk:k<r.cells.length) :
  (w.cell? ⟨b,1+k*3,none⟩=some (.int .i64 r.cells[k].e)∧w.cell? ⟨b,1+k*3+1,none⟩=some (.int .i64 r.cells[k].n)∧w.cell? ⟨b,1+k*3+2,none⟩=some (.string r.cells[k].d)) ∧
  w.frozen? ⟨b,1+k*3,none⟩=false∧w.frozen? ⟨b,1+k*3+1,none⟩=false∧w.frozen? ⟨b,1+k*3+2,none⟩=false:=by
 obtain ⟨h1,h2,h3⟩:=r.at hk
 simp [World.cell?,World.frozen?,h,h1,h2,h3]
theorem rp_floor {w:World} {b:Nat} {r:Rp} {T:TypeId} (h:w.heap[b]?=some (.cells r.arr T (0,0))):w.cell? ⟨b,0,none⟩=some (.int .i64 r.floor)∧w.frozen? ⟨b,0,none⟩=false:=by
 have:=r.at0
 simp [World.cell?,World.frozen?,h,this]
set_option maxRecDepth 100000 in
set_option maxHeartbeats 2000000 in
theorem admit_any (r:Rp) (k:Nat) (c:Cel) (w:World) (hr:r.cells.length=8) (hk:k<8) :
  Calls Tryz.prog 70 #[.agg r.arr,.int .i64 k,c.v] w fun e w'=>e=.returned (.tuple #[.agg (r.admitC k c).arr,.bool (decide (c.e=r.floor))])∧Below w.heap.size w w':=by
 have HR:=Lib.hid hr
 have hz:=Lib.hid (Rp.size hr)
 clear hr
 go_enter Tryz.func70,Tryz.ntmps70
 go_upto_region 1 with fail
 obtain ⟨w3,hw3⟩:∃ w3,w3=((w.alloc (.cells r.arr 41)).alloc (.cells #[.int .i64 c.e,.int .i64 c.n,.string c.d] 38)).alloc (.cells Rp.zero.arr 41):=⟨_,rfl⟩
 rw [rp_zero_arr] at hw3
 rw [← hw3]
 rw [← rp_zero_arr] at hw3
 have HB:=Lib.hid (show Below w.heap.size w w3 from hw3▸bal3a w _ _ _)
 have hs3:w3.heap.size=w.heap.size+1+1+1:=by rw [hw3]; simp
 have HA:=Lib.hid (show w3.heap[w.heap.size]?=some (.cells r.arr 41 (0,0)) from hw3▸(heap3 w _ _ _).1)
 have HC:=Lib.hid (show w3.heap[w.heap.size+1]?=some (.cells #[.int .i64 c.e,.int .i64 c.n,.string c.d] 38 (0,0)) from hw3▸(heap3 w _ _ _).2.1)
 have HZ:=Lib.hid (show w3.heap[w.heap.size+1+1]?=some (.cells Rp.zero.arr 41 (0,0)) from hw3▸(heap3 w _ _ _).2.2)
 have hv0:w.heap.size<w3.heap.size:=by omega
 have hv1:w.heap.size+1<w3.heap.size:=by omega
 have hv2:w.heap.size+1+1<w3.heap.size:=by omega
 clear hw3 hs3
 obtain ⟨c0,c1,c2⟩:=cell_box HC.out
 obtain ⟨f0,-⟩:=rp_floor HA.out
 by_cases he:c.e=r.floor
 ·have eb:(c.e != r.floor)=false:=by simp [he]
  have HE:=Lib.hid he
  clear he
  obtain ⟨⟨r0,r1,r2⟩,-⟩:=rp_cell (k:=k) HA.out (by rw [HR.out]; exact hk)
  have hq:=bregrown (Below.refl w3.heap.size w3)
  have hkr:k<r.cells.length:=by rw [HR.out]; exact hk
  have HKR:=Lib.hid hkr
  obtain ⟨X,hX⟩:∃ X,newerB c r.cells[k]=X:=⟨_,rfl⟩
  have HX:=Lib.hid hX
  have NW:=Lib.hid (fun (w:World)=>newer_any c r.cells[k] w)
  have hk8:decide ((k:Int)<8)=true:=by simpa using (by omega:(k:Int)<8)
  clear hX
  go_upto_region 3 with fail
  go_cut [19] (fun v wx=>v=.bool X∧Below w3.heap.size w3 wx)
  case first =>
   refine wp_region_quiet_below (by kernel_rfl) (by kernel_rfl) ?_
   repeat (go_big_quiet_step (exact Calls.regrown_of (NW.out _)))
   refine wpQuiet_nil ?_
   rintro w' ⟨⟨dq,osq⟩,rfl⟩
   go_wp2_with fail
   go_meet
   exact ⟨by rw [HX.out],below_regrown _ dq osq⟩
  case rest =>
   obtain ⟨rfl,b4⟩:=hcut
   have HB4:=Lib.hid (HB.out.trans (b4.mono HB.out.size))
   have HA4:=Lib.hid ((b4.block _ hv0).trans HA.out)
   have HC4:=Lib.hid ((b4.block _ hv1).trans HC.out)
   have HZ4:=Lib.hid ((b4.block _ hv2).trans HZ.out)
   have hu2:w.heap.size+1+1<wc.heap.size:=Nat.lt_of_lt_of_le hv2 b4.size
   have HG:=Lib.hid (Rp.get_at (r:=r) hkr)
   clear b4 hq c0 c1 c2 f0 r0 r1 r2
   go_upto_if 19 with fail
   go_cut [19] (fun _ wx=>wx.heap[w.heap.size]?=some (.cells (r.admitC k c).arr 41 (0,0))∧Keeps (·=w.heap.size) wc wx)
   case first =>
    cases X
    ·have HM:=Lib.hid (show r.admitC k c=r from if_neg (fun h=>by have h2:=h.2; rw [HG.out] at h2; exact absurd (h2.symm.trans HX.out) (by decide)))
     go_wp2_with fail
     go_meet
     exact ⟨by rw [HM.out]; exact HA4.out,Keeps.refl _ _⟩
    ·have HM:=Lib.hid (show r.admitC k c=⟨r.floor,r.cells.set k c⟩ from if_pos ⟨HE.out,by rw [HG.out]; exact HX.out⟩)
     obtain ⟨c0,c1,c2⟩:=cell_box HC4.out
     obtain ⟨⟨r0,r1,r2⟩,s0,s1,s2⟩:=rp_cell (k:=k) HA4.out hkr
     go_wp2_with fail
     go_meet
     refine ⟨?_,Keeps.setCell (S:=(·=w.heap.size)) (Keeps.setCell (S:=(·=w.heap.size)) (Keeps.setCell (S:=(·=w.heap.size)) (Keeps.refl _ _) rfl _) rfl _) rfl _⟩
     rw [HM.out,← Rp.set r c HKR.out]
     exact block_setCell (block_setCell (block_setCell HA4.out _) _) _
   case rest =>
    obtain ⟨wo,rfl⟩:∃ wo:World,wo=wc:=⟨_,rfl⟩
    obtain ⟨ha5,hk5⟩:=hcut
    have HA5:=Lib.hid ha5
    have HZ5:=Lib.hid ((hk5.block (w.heap.size+1+1) (by omega) hu2).trans HZ4.out)
    have HB5:=Lib.hid (HB4.out.trans (hk5.below HB4.out.size (fun m hm=>by omega)))
    have hz5:=Lib.hid (Rp.size (r:=r.admitC k c) (by rw [Rp.admit_len,HR.out]))
    clear ha5 hk5
    go_wp2_with (first | (refine wpList_load_row rfl 41 _ rfl w.heap.size rfl 41 (r.admitC k c).arr (0,0) _ HA5.out rp_row.1 rfl (by rw [rp_row.2.1,hz5.out]) ?_) | (refine wpList_store_row rfl 41 _ _ rfl (w.heap.size+1+1) (r.admitC k c).arr rfl rfl 41 Rp.zero.arr HZ5.out (by rw [rp_row.2.1,hz5.out]) (by rw [hz5.out]; rfl) (Rp.one _) ?_))
    refine bodyPost_ret (v:=.tuple #[.agg (r.admitC k c).arr,.bool true]) (results_row_tmp Tryz.results70 _ _ (w.heap.size+1+1) 41 (r.admitC k c).arr (0,0) _ _ rfl rfl (setRow_heap _ _ _ _ _ _ HZ5.out) rp_row.1 rfl (by rw [rp_row.2.1,hz5.out])) rfl ?_
    exact ⟨by rw [decide_eq_true HE.out],HB5.out.trans (((Keeps.refl (·=w.heap.size+1+1) wo).setRow rfl _).below HB5.out.size (fun m hm=>by omega))⟩
 ·have eb:(c.e != r.floor)=true:=by simp [he]
  have HE:=Lib.hid he
  clear he
  go_wp2_with (first | (refine wpList_load_row rfl 41 _ rfl w.heap.size rfl 41 r.arr (0,0) _ HA.out rp_row.1 rfl (by rw [rp_row.2.1,hz.out]) ?_) | (refine wpList_store_row rfl 41 _ _ rfl (w.heap.size+1+1) r.arr rfl rfl 41 Rp.zero.arr HZ.out (by rw [rp_row.2.1,hz.out]) (by rw [hz.out]; rfl) r.one ?_))
  refine bodyPost_ret (v:=.tuple #[.agg r.arr,.bool false]) (results_row_tmp Tryz.results70 _ _ (w.heap.size+1+1) 41 r.arr (0,0) _ _ rfl rfl (setRow_heap _ _ _ _ _ _ HZ.out) rp_row.1 rfl (by rw [rp_row.2.1,hz.out])) rfl ?_
  refine ⟨?_,HB.out.trans (((Keeps.refl (·=w.heap.size+1+1) w3).setRow rfl _).below HB.out.size (fun m hm=>by omega))⟩
  rw [show r.admitC k c=r from if_neg (fun h=>HE.out h.1),decide_eq_false HE.out]
def RowIn (w:World) (N n:Nat) (T:TypeId):Prop:=∃ old,w.heap[N]?=some (.cells old T (0,0))∧old.size=n
theorem RowIn.setRow {w:World} {N n:Nat} {T:TypeId} (h:RowIn w N n T) {cs:Array Value} (hs:cs.size=n):RowIn (w.setRow N cs) N n T:=by
 obtain ⟨old,h1,h2⟩:=h
 exact ⟨cs,setRow_heap w N old cs T (0,0) h1,hs⟩
theorem step_store_row {P:Program} {ops:Array Oper} {o:Oper} {a:Act} {w:World} {K:Act→World→Prop} {Q:Exit→Act→World→Prop} {E:Prop} (hgd:o.guard=none) (ty:TypeId) (x y:Operand) (ho:o.op=.store ty x y)
  (g:Nat) (cells:Array Value) (hx:a.eval x=.pointer (some ⟨g,0,none⟩)) (hy:a.eval y=.agg cells)
  (t:TypeId) (old:Array Value) (hg:w.heap[g]?=some (.cells old t (0,0))) (hi:(P.info? ty).map (·.size)=some cells.size)
  (hold:old.size=cells.size) (h1:cells.all (·.oneCell')=true)
  (h:K (a.put o.dst undef) (w.setRow g cells)):if Region.wanted o (yielded ops a.tmps)=true then Oper.wp P o a w K Q else E:=by
 have hw:Region.wanted o (yielded ops a.tmps)=true:=by simp [Region.wanted,hgd]
 rw [if_pos hw]
 exact wp_store_row ty x y ho g cells hx hy t old hg hi hold h1 h
theorem range_of {w:World} {N:Nat} {cs:Array Value} {T:TypeId} (h:w.heap[N]?=some (.cells cs T (0,0))):w.rangeAt N 0 cs.toList:=by
 intro j v hj
 rw [cell_of_row w N (0+j) cs T (0,0) h,Nat.zero_add]
 simpa using hj
theorem rp_lit {Y:Rp} (h:Y.cells.length=8):∃ (f:Int) (d0 d1 d2 d3 d4 d5 d6 d7:Cel),Y=⟨f,[d0,d1,d2,d3,d4,d5,d6,d7]⟩:=by
 obtain ⟨f,l⟩:=Y
 match l,h with
 | [d0,d1,d2,d3,d4,d5,d6,d7],_=>exact ⟨f,d0,d1,d2,d3,d4,d5,d6,d7,rfl⟩
theorem region_tail1 {P:Program} {id:Nat} {Q:Exit→Act→World→Prop} {a:Act} {w:World} {l:List Oper} (n:Nat) (hm:P.follows .mixedOrders=true) (hB:Region.lexTailB .any l.toArray n=true)
  (h:∀ wd,Below w.heap.size w wd→wd.heap=w.heap→wpStill P l.toArray wd (fun a'=>wpList P l.toArray Q (l.drop n) a' wd) (l.take n) a):(Code.region id l.toArray true).wp P Q a w :=
 wp_region_still_tail n hm hB (h w.drew (Below.refl _ _).drew rfl)
theorem yieldsIf_load_row {P:Program} {ops:Array Oper} {S:World→Prop} {op:Oper} {a:Act} (hw:Region.wanted op (yielded ops a.tmps)=true) (ty:TypeId) (x:Operand) (ho:op.op=.load ty x)
  (g:Nat) (hx:a.eval x=.pointer (some ⟨g,0,none⟩)) (t:TypeId) (cs:Array Value) (fr:Nat × Nat) (d:TypeDesc) (hg:∀ w,S w→w.heap[g]?=some (.cells cs t fr))
  (hu:P.underlying ty=some d) (hd:(match d with | .struct _ | .array _ _=>true | _=>false)=true) (hi:(P.info? ty).map (·.size)=some cs.size):YieldsIf P ops S op (.agg cs) a :=
 .inl ⟨hw,fun w hC=>by
  unfold execOp
  simp only [ho,hx,Instr.loadAt,Instr.sureAddr,Sem.run_bind,Sem.run_pure,Result.andThen_ok,run_loadVar_row w g t ty cs fr d (hg w hC) hu hd hi]⟩
set_option maxRecDepth 100000 in
set_option maxHeartbeats 2000000 in
theorem fence_any (r:Rp) (epoch:Int) (w:World) (hr:r.cells.length=8) (he:-4611686018427387904≤epoch∧epoch≤4611686018427387904) :
  Calls Tryz.prog 97 #[.agg r.arr,.int .i64 epoch] w fun e w'=>e=.returned (.tuple #[.agg (r.fence epoch).arr,.bool ((r.fence epoch).floor == epoch)])∧Below w.heap.size w w':=by
 have hz:=Lib.hid (Rp.size (r:=r.fence epoch) (by unfold Rp.fence; split <;> exact hr))
 have q1:IntKind.i64.wrap (epoch - 1)=epoch - 1:=IntWalk.i64_in _ (by omega)
 clear hr
 go_enter Tryz.func97,Tryz.ntmps97
 go_upto_region 1 with fail
 obtain ⟨w3,hw3⟩:∃ w3,w3=(w.alloc (.cells r.arr 41)).alloc (.cells Rp.zero.arr 41):=⟨_,rfl⟩
 rw [rp_zero_arr] at hw3
 rw [← hw3]
 rw [← rp_zero_arr] at hw3
 have HB:=Lib.hid (show Below w.heap.size w w3 from hw3▸(bal w _).alloc (by simp) _)
 have hs3:w3.heap.size=w.heap.size+1+1:=by rw [hw3]; simp
 have HA:=Lib.hid (show w3.heap[w.heap.size]?=some (.cells r.arr 41 (0,0)) from hw3▸heap_alloc2_old w _ _)
 have HZ:=Lib.hid (show w3.heap[w.heap.size+1]?=some (.cells Rp.zero.arr 41 (0,0)) from hw3▸heap_alloc2_new w _ _)
 have hv0:w.heap.size<w3.heap.size:=by omega
 have hv1:w.heap.size+1<w3.heap.size:=by omega
 clear hw3 hs3
 obtain ⟨f0,g0⟩:=rp_floor HA.out
 go_upto_if 10 with fail
 go_cut [10] (fun _ wx=>wx.heap[w.heap.size]?=some (.cells (r.fence epoch).arr 41 (0,0))∧Keeps (·=w.heap.size) w3 wx)
 case first =>
  by_cases hf:r.floor=epoch - 1
  ·have eb:(r.floor == epoch - 1)=true:=by simp [hf]
   have HF:=Lib.hid (show r.fence epoch=⟨epoch,r.cells⟩ from if_pos hf)
   clear hf
   go_wp2_with fail
   go_meet
   exact ⟨by rw [HF.out,← Rp.setFloor]; exact block_setCell HA.out _,Keeps.setCell (S:=(·=w.heap.size)) (Keeps.refl _ _) rfl _⟩
  ·have eb:(r.floor == epoch - 1)=false:=by simp [hf]
   have HF:=Lib.hid (show r.fence epoch=r from if_neg hf)
   clear hf
   go_wp2_with fail
   go_meet
   exact ⟨by rw [HF.out]; exact HA.out,Keeps.refl _ _⟩
 case rest =>
  obtain ⟨ha5,hk5⟩:=hcut
  have HB5:=Lib.hid (HB.out.trans (hk5.below HB.out.size (fun m hm=>by omega)))
  have HA5:=Lib.hid ha5
  have HZ5:=Lib.hid ((hk5.block (w.heap.size+1) (by omega) hv1).trans HZ.out)
  clear ha5 hk5 f0 g0
  obtain ⟨Y,hY⟩:∃ Y,r.fence epoch=Y:=⟨_,rfl⟩
  rw [hY] at HA5 hz
  have HY:=Lib.hid hY
  clear hY
  go_wp2_with fail
  obtain ⟨S,hS⟩:∃ S:World→Prop,S=fun w'=>w'.heap[w.heap.size]?=some (.cells Y.arr 41 (0,0))∧RowIn w' (w.heap.size+1) 25 41:=⟨_,rfl⟩
  have S1:∀ w',S w'→w'.heap[w.heap.size]?=some (.cells Y.arr 41 (0,0)):=fun w' h=>by rw [hS] at h; exact h.1
  have S3:∀ w',S w'→RowIn w' (w.heap.size+1) 25 41:=fun w' h=>by rw [hS] at h; exact h.2
  have S0:S wc.drew:=by rw [hS]; exact ⟨HA5.out,⟨Rp.zero.arr,HZ5.out,rfl⟩⟩
  have S4:∀ w',S w'→S (w'.setRow (w.heap.size+1) Y.arr):=fun w' h=>by
   rw [hS] at h ⊢
   exact ⟨(setRow_other _ _ _ _ (by omega)).trans h.1,h.2.setRow hz.out⟩
  refine wp_region_held_drew (S:=S) (by kernel_rfl) S0 (fun hHeld=>?_)
  refine wpAnyH_take (i:=0) (oi:=_) (v:=.agg Y.arr) rfl (by kernel_rfl) (by kernel_rfl) (by kernel_rfl) (fun _ _ _ h=>h) (yieldsIf_load_row (by rfl) 41 _ rfl w.heap.size rfl 41 Y.arr (0,0) _ S1 rp_row.1 rfl (by rw [rp_row.2.1,hz.out])) hHeld ?_
  simp only [Act.put,List.getElem_toArray,List.getElem_cons_zero,List.setIfInBounds_toArray,List.set_cons_zero,List.set_cons_succ]
  refine wpAnyH_take (i:=1) (oi:=_) (v:=.pointer (some ⟨w.heap.size,0,none⟩)) rfl (by kernel_rfl) (by kernel_rfl) (by kernel_rfl) (fun _ _ _ h=>h) (Or.inl ⟨by rfl,fun w' hSw=>by go_simp⟩) hHeld ?_
  simp only [Act.put,List.getElem_toArray,List.getElem_cons_zero,List.getElem_cons_succ,List.setIfInBounds_toArray,List.set_cons_zero,List.set_cons_succ]
  refine wpAnyH_take (i:=2) (oi:=_) (v:=.int .i64 Y.floor) rfl (by kernel_rfl) (by kernel_rfl) (by kernel_rfl) (fun _ _ _ h=>h) (Or.inl ⟨by rfl,fun w' hSw=>by have hc:=(rp_floor (S1 w' hSw)).1; go_simp⟩) hHeld ?_
  simp only [Act.put,List.getElem_toArray,List.getElem_cons_zero,List.getElem_cons_succ,List.setIfInBounds_toArray,List.set_cons_zero,List.set_cons_succ]
  refine wpAnyH_take (i:=3) (oi:=_) (v:=.int .i64 epoch) rfl (by kernel_rfl) (by kernel_rfl) (by kernel_rfl) (fun _ _ _ h=>h) (Or.inl ⟨by rfl,fun w' hSw=>by go_simp⟩) hHeld ?_
  simp only [Act.put,List.getElem_toArray,List.getElem_cons_zero,List.getElem_cons_succ,List.setIfInBounds_toArray,List.set_cons_zero,List.set_cons_succ]
  refine wpAnyH_take (i:=4) (oi:=_) (v:=.bool (Y.floor == epoch)) rfl (by kernel_rfl) (by kernel_rfl) (by kernel_rfl) (fun _ _ _ h=>h) (Or.inl ⟨by rfl,fun w' hSw=>by go_simp⟩) hHeld ?_
  simp only [Act.put,List.getElem_toArray,List.getElem_cons_zero,List.getElem_cons_succ,List.setIfInBounds_toArray,List.set_cons_zero,List.set_cons_succ]
  refine wpAnyH_ready (rs:=[5]) (by kernel_rfl) (by simp) ?_
  refine AllReadyH.cons (o:=_) rfl (fun K hK=>?_) AllReadyH.nil
  obtain ⟨old,ho1,ho2⟩:=S3 _ hHeld
  refine step_store_row rfl 41 _ _ rfl (w.heap.size+1) Y.arr rfl rfl 41 old ho1 (by rw [rp_row.2.1,hz.out]) (by rw [ho2,hz.out]) (Rp.one _) ?_
  refine hK.out _ _ (S4 _ hHeld) (fun hHeld2=>?_)
  clear hK K
  simp only [Act.put,List.getElem_toArray,List.getElem_cons_zero,List.getElem_cons_succ]
  refine wpAnyH_ready (rs:=[6]) (by kernel_rfl) (by simp) ?_
  refine AllReadyH.cons (o:=_) rfl (fun K hK=>?_) AllReadyH.nil
  go_simp
  refine hK.out _ _ hHeld2 (fun hHeld3=>?_)
  clear hK K
  refine wpAnyH_done (by kernel_rfl) ?_ _
  go_wp2
  have hb:Below w.heap.size w (wc.drew.setRow (w.heap.size+1) Y.arr):=HB5.out.trans ((((Keeps.refl (·=w.heap.size+1) wc).drew).setRow rfl _).below HB5.out.size (fun m hm=>by omega))
  refine bodyPost_ret (v:=.tuple #[.agg Y.arr,.bool (Y.floor == epoch)]) (results_row_tmp Tryz.results97 _ _ (w.heap.size+1) 41 Y.arr (0,0) _ _ rfl rfl (setRow_heap _ _ _ _ _ _ ho1) rp_row.1 rfl (by rw [rp_row.2.1,hz.out])) rfl ?_
  exact ⟨by rw [HY.out],hb⟩
end Go.Proofs.YtbkmdmmgalmmaaaGreatDoor

namespace Go.Proofs.YtbkmdmmgalmmaaaGreatDoor
open Go.RowKit Go.Sort
def Rp.start:Rp:=⟨1,List.replicate 8 Cel.zero⟩
theorem Rp.admit_no {r:Rp} {k:Nat} {c:Cel} (h:c.e≠r.floor):r.admitC k c=r:=if_neg (fun e=>h e.1)
theorem results_row1 {P:Program} {fn:Func} {p:Tmp} {ty:TypeId} (h:fn.results=#[.cell p ty]) (tmps:Array Value) (w:World) (g:Nat) (t:TypeId) (cs:Array Value) (fr:Nat × Nat) (d:TypeDesc)
  (hp:tmps.getD p undef=.pointer (some ⟨g,0,none⟩)) (hg:w.heap[g]?=some (.cells cs t fr))
  (hu:P.underlying ty=some d) (hd:(match d with | .struct _ | .array _ _=>true | _=>false)=true) (hi:(P.info? ty).map (·.size)=some cs.size) :
  (results fn tmps).run P w=.ok (.agg cs) w:=by
 have hp':tmps[p]?.getD undef=.pointer (some ⟨g,0,none⟩):=by simpa using hp
 simp [results,h,hp',asAddr,run_loadVar_row w g t ty cs fr d hg hu hd hi]
theorem eqRp_self (r:Rp):eqRp r r=true:=by simp [eqRp]
set_option maxRecDepth 100000 in
theorem new_any (w:World):Calls Tryz.prog 79 #[] w fun e w'=>e=.returned (.agg Rp.start.arr)∧Below w.heap.size w w':=by
 go_enter Tryz.func79,Tryz.ntmps79
 go_upto_region 1 with fail
 obtain ⟨w1,hw1⟩:∃ w1,w1=w.alloc (.cells Rp.zero.arr 41):=⟨_,rfl⟩
 rw [rp_zero_arr] at hw1
 rw [← hw1]
 rw [← rp_zero_arr] at hw1
 have HB:=Lib.hid (show Below w.heap.size w w1 from hw1▸bal w _)
 have HZ:=Lib.hid (show w1.heap[w.heap.size]?=some (.cells Rp.zero.arr 41 (0,0)) from hw1▸heap_alloc_new w _)
 clear hw1
 go_wp2_with (refine wpList_store_row rfl 41 _ _ rfl w.heap.size Rp.start.arr rfl rfl 41 Rp.zero.arr HZ.out (by rw [rp_row.2.1]; rfl) (by rfl) (Rp.one _) ?_)
 refine bodyPost_ret (v:=.agg Rp.start.arr) (results_row1 Tryz.results79 _ _ w.heap.size 41 Rp.start.arr (0,0) _ rfl (setRow_heap _ _ _ _ _ _ HZ.out) rp_row.1 rfl (by rw [rp_row.2.1]; rfl)) rfl ?_
 exact ⟨rfl,HB.out.trans (((Keeps.refl (·=w.heap.size) w1).setRow rfl _).below HB.out.size (fun m hm=>by omega))⟩
theorem admit_x (r:Rp) (i:Int) (k:Nat) (hi:i=(k:Int)) (c:Cel) (w:World) (hr:r.cells.length=8) (hk:k<8) (m:Rp) (hm:r.admitC k c=m) (b:Bool) (hb:decide (c.e=r.floor)=b) :
  Calls Tryz.prog 70 #[.agg r.arr,.int .i64 i,c.v] w fun e w'=>e=.returned (.tuple #[.agg m.arr,.bool b])∧Below w.heap.size w w':=by
 subst hi hm hb; exact admit_any r k c w hr hk
theorem eqg_rp:Tryz.prog.eqGuardType Tryz.prog.depth 41=false:=by kernel_rfl
theorem bel_row (wx:World) (z cs:Array Value) (T:TypeId):Below wx.heap.size wx ((wx.alloc (.cells z T)).setRow wx.heap.size cs) :=
 (bal wx _).trans (((Keeps.refl (·=wx.heap.size) (wx.alloc (.cells z T))).setRow rfl _).below (bal wx _).size (fun m hm=>by omega))
end Go.Proofs.YtbkmdmmgalmmaaaGreatDoor

namespace Go.Proofs.YtbkmdmmgalmmaaaGreatDoor
open Go.ChangeShapes Go.WideShapes Go.ChangeAt Go.RowKit Go.Deep
theorem own:ownKnob Tryz.prog.godebug=none:=by kernel_rfl
theorem laidOut:laidOutB Tryz.prog=true:=by kernel_rfl
section
variable {H:Type} {enc:TypeId × Value→H} {P:Program}
theorem trodAll_below (hl:laidOutB P=true) {W W':World} (hb:Below W.heap.size W W') :
  ∀ {ts:List TypeId} {vs:List Value} {ds:List (DataW H)} {ps:List MemPlace},(∀ t∈ts,P.readableRec t=true∧t<P.types.size)→(∀ x∈ps,x.block<W.heap.size) →
   DataW.TrodAll enc P W 0 (fun _=>true) true ts vs ds ps→DataW.TrodAll enc P W' 0 (fun b=>decide (b<W.heap.size)) true ts vs ds ps
 | [],[],[],_,_,_,h=>h
 | t :: ts,v :: vs,d :: ds,ps,ht,hlt,h=>by
  obtain ⟨p,q,h1,h2,rfl⟩:=h
  exact ⟨p,q,Below.trod hl (ht t (by simp)).1 (ht t (by simp)).2 h1 hb (fun x hx=>hlt x (by simp [hx])),trodAll_below hl hb (fun t' h'=>ht t' (by simp [h'])) (fun x hx=>hlt x (by simp [hx])) h2,rfl⟩
 | [],_ :: _,_,_,_,_,h=>h.elim
 | [],[],_ :: _,_,_,_,h=>h.elim
 | _ :: _,[],_,_,_,_,h=>h.elim
 | _ :: _,_ :: _,[],_,_,_,h=>h.elim
theorem post_true {f:Func} {s:ChangeSpec} {W W':World} {args:Array Value} {ds gs:List (DataW H)} {before:List MemPlace} {tb:TypeId} (hl:laidOutB P=true)
  (hW:DataW.Whole enc P f.params.toList s.vars false W args.toList ds gs before) (hvars:s.vars=[]) (hres:f.resultTypes=#[tb]) (htb:P.underlying tb=some .bool)
  (hts:∀ t∈f.params.toList,P.readableRec t=true∧t<P.types.size)
  (hfn:s.fn H (ds ++ gs)={ results:=[.lit (.bool true)],args:=ds }) (hb:Below W.heap.size W W') :
  s.post enc P f false true false false W args (.bool true) W':=by
 have hlt:=hW.lt
 have hW':=hW
 obtain ⟨p,q,hA,hV,rfl,hfz,hnd⟩:=hW
 rw [hvars] at hV
 obtain ⟨rfl,rfl⟩:=trodVars_none hV
 refine ⟨ds,[],p ++ [],[],p,[],hW',?_,?_,?_,hb.frame _,fun h=>by cases h⟩
 ·rw [hfn,hres]
  exact trodAll_cons_mk (shut_bool htb true) trodAll_mk0
 ·rw [hfn]
  exact trodAll_below hl hb hts (fun x hx=>by simpa using hlt x (by simp [hx])) hA
 ·rw [hvars,hfn]
  rfl
theorem len2 {α:Type} {l:List α} (h:l.length=2):∃ a b,l=[a,b]:=by
 match l,h with
 | [a,b],_=>exact ⟨a,b,rfl⟩
theorem len5 {α:Type} {l:List α} (h:l.length=5):∃ a b c d e,l=[a,b,c,d,e]:=by
 match l,h with
 | [a,b,c,d,e],_=>exact ⟨a,b,c,d,e,rfl⟩
end
end Go.Proofs.YtbkmdmmgalmmaaaGreatDoor

namespace Go.Proofs.YtbkmdmmgalmmaaaGreatDoor
open Go.ChangeShapes Go.WideShapes Go.ChangeAt Go.RowKit Go.Deep
section
variable {H:Type} {enc:TypeId × Value→H} {w:World} {base:Nat}
theorem pairs_list (w:World) (a:Addr):∀ n,(∀ i,i<n→∃ u v:Int,w.cell? (a.add (i*2))=some (.int .i64 u)∧w.cell? (a.add (i*2+1))=some (.int .i64 v)) →
  ∃ l:List (Int × Int),l.length=n∧∀ i (h:i<l.length),w.cell? (a.add (i*2))=some (.int .i64 (l[i]).1)∧w.cell? (a.add (i*2+1))=some (.int .i64 (l[i]).2)
 | 0,_=>⟨[],rfl,fun i h=>absurd h (by simp)⟩
 | k+1,key=>by
  obtain ⟨l,hl,hl2⟩:=pairs_list w a k (fun i hi=>key i (by omega))
  obtain ⟨u,v,hu,hv⟩:=key k (by omega)
  refine ⟨l ++ [(u,v)],by simp [hl],fun i h=>?_⟩
  by_cases hik:i<l.length
  ·rw [List.getElem_append_left hik]; exact hl2 i hik
  ·have:i=k:=by simp at h; omega
   subst this
   rw [List.getElem_append_right (by omega)]
   simp [hl,hu,hv]
theorem trod_state {fuel:Nat} {cs:List Value} {x:DataW H × List MemPlace} (h:DataW.trod enc Tryz.prog w base (fun _=>true) true fuel 35 cs=some x) :
  ∃ (s:St) (a:Option Addr) (cap:Nat),cs=[.int .i64 s.gen,.slice a s.regs.length cap,.int .i64 s.typ,.int .i64 s.holder,.bool s.stays]∧StR w s a:=by
 obtain ⟨xs,n,_,hx,hcl,hxl,hf⟩:=DataW.trod_struct Tryz.underlying35 h
 have hC:Tryz.prog.cellsOf 35=5:=by kernel_rfl
 have hC3:Tryz.prog.cellsOf 3=1:=by kernel_rfl
 have hC22:Tryz.prog.cellsOf 33=1:=by kernel_rfl
 have hC4:Tryz.prog.cellsOf 4=1:=by kernel_rfl
 rw [hC] at hcl
 obtain ⟨c0,c1,c2,c3,c4,rfl⟩:=len5 hcl
 obtain ⟨y0,y1,y2,y3,y4,rfl⟩:=len5 hxl
 have f0:=hf 0 _ rfl
 have f1:=hf 1 _ rfl
 have f2:=hf 2 _ rfl
 have f3:=hf 3 _ rfl
 have f4:=hf 4 _ rfl
 simp only [List.getElem_toArray,List.getElem_cons_zero,List.getElem_cons_succ,hC3,hC22,hC4,List.drop_zero,List.drop_succ_cons,List.take_succ_cons,List.take_zero,List.getElem?_cons_zero,List.getElem?_cons_succ] at f0 f1 f2 f3 f4
 obtain ⟨i0,e0,_,w0⟩:=DataW.trod_int Tryz.underlying3 f0
 obtain ⟨i2,e2,_,w2⟩:=DataW.trod_int Tryz.underlying3 f2
 obtain ⟨i3,e3,_,w3⟩:=DataW.trod_int Tryz.underlying3 f3
 obtain ⟨b4,e4,_⟩:=DataW.trod_bool Tryz.underlying4 f4
 simp only [List.cons.injEq,and_true] at e0 e2 e3 e4
 subst e0 e2 e3 e4
 rcases open_slice Tryz.underlying33 f1 with ⟨hcs,_⟩ | ⟨a',len',cap',m,n',D,Pl,hcs,hbs,hl,hm,hmm,hx1,hi⟩
 ·simp only [List.cons.injEq,and_true] at hcs
  subst hcs
  exact ⟨⟨i0,[],i2,i3,b4⟩,none,0,rfl,⟨by simp,Pairs.nil _ _ _⟩⟩
 ·simp only [List.cons.injEq,and_true] at hcs
  subst hcs
  have hC27:Tryz.prog.cellsOf 97=2:=by kernel_rfl
  have hml:len'≤m:=by rw [hmm]; split <;> omega
  have key:∀ i,i<len'→∃ u v:Int,w.cell? (a'.add (i*2))=some (.int .i64 u)∧w.cell? (a'.add (i*2+1))=some (.int .i64 v):=by
   intro i hi'
   obtain ⟨cs',hc,ht'⟩:=hi i (by omega)
   rw [hC27] at hc
   obtain ⟨ys,n2,_,_,hyl,hys,hg⟩:=DataW.trod_struct Tryz.underlying97 ht'
   rw [hC27] at hyl
   obtain ⟨d0,d1,rfl⟩:=len2 hyl
   obtain ⟨z0,z1,rfl⟩:=len2 hys
   have g0:=hg 0 _ rfl
   have g1:=hg 1 _ rfl
   simp only [List.getElem_toArray,List.getElem_cons_zero,List.getElem_cons_succ,hC3,List.drop_zero,List.drop_succ_cons,List.take_succ_cons,List.take_zero,List.getElem?_cons_zero,List.getElem?_cons_succ] at g0 g1
   obtain ⟨u,eu,_,_⟩:=DataW.trod_int Tryz.underlying3 g0
   obtain ⟨v,ev,_,_⟩:=DataW.trod_int Tryz.underlying3 g1
   simp only [List.cons.injEq,and_true] at eu ev
   subst eu ev
   obtain ⟨_,_,hat⟩:=World.cells?_some hc
   refine ⟨u,v,?_,?_⟩
   ·have:=hat 0 (by omega); simpa [Go.Deep.add_add] using this
   ·have:=hat 1 (by omega); simpa [Go.Deep.add_add] using this
  have hall:=pairs_list w a' len' key
  obtain ⟨l,hll,hl2⟩:=hall
  subst hll
  refine ⟨⟨i0,l,i2,i3,b4⟩,some a',cap',rfl,⟨by show l.length≤maxLen; omega,fun i (hi':i<l.length)=>?_⟩⟩
  obtain ⟨c1,c2⟩:=hl2 i hi'
  obtain ⟨ab,ao,asp⟩:=a'
  have has:asp=none:=by
   cases asp with
   | none=>rfl
   | some z =>
    exfalso
    have c0:=(hl2 0 (by omega)).1
    simp [Addr.add,World.cell?] at c0
    split at c0 <;> simp at c0
  subst has
  refine ⟨ab,ao,rfl,block_lt_of_cell (hl2 0 (by omega)).1,?_,?_⟩
  ·cases i with
   | zero=>simpa [Addr.add] using c1
   | succ j=>simpa [Addr.add] using c1
  ·simpa [Addr.add,Nat.add_assoc] using c2
end
end Go.Proofs.YtbkmdmmgalmmaaaGreatDoor

namespace Go.Proofs.YtbkmdmmgalmmaaaGreatDoor
open Go.ChangeShapes Go.WideShapes Go.ChangeAt Go.RowKit Go.Deep
def RpsAt (w:World) (a:Option Addr) (l:List Rp):Prop :=
 ∀ i (h:i<l.length),l[i].cells.length=8∧∃ b o,a=some ⟨b,o,none⟩∧b<w.heap.size∧w.rangeAt b (o+i*25) l[i].arr.toList
section
variable {H:Type} {enc:TypeId × Value→H} {w:World} {base:Nat}
end
end Go.Proofs.YtbkmdmmgalmmaaaGreatDoor

namespace Go.Proofs.YtbkmdmmgalmmaaaGreatDoor
open Go.RowKit Go.Sort
def mstep (best cs:List Cel):Nat→List Cel
 | 0=>best
 | n+1=>if newerB (cs.getD n Cel.zero) ((mstep best cs n).getD n Cel.zero) then (mstep best cs n).set n (cs.getD n Cel.zero) else mstep best cs n
theorem mstep_len (best cs:List Cel):∀ n,(mstep best cs n).length=best.length
 | 0=>rfl
 | n+1=>by
  unfold mstep
  split
  ·simp [mstep_len best cs n]
  ·exact mstep_len best cs n
theorem mstep_get (best cs:List Cel) (i:Nat) (hi:i<best.length):∀ n,(mstep best cs n).getD i Cel.zero=if i<n∧newerB (cs.getD i Cel.zero) (best.getD i Cel.zero)=true then cs.getD i Cel.zero else best.getD i Cel.zero
 | 0=>by simp [mstep]
 | n+1=>by
  have ih:=mstep_get best cs i hi n
  have hl:=mstep_len best cs n
  unfold mstep
  by_cases hin:i=n
  ·subst hin
   rw [if_neg (by omega)] at ih
   rw [ih]
   by_cases hn:newerB (cs.getD i Cel.zero) (best.getD i Cel.zero)=true
   ·rw [if_pos hn,if_pos ⟨by omega,hn⟩]
    simp [List.getD_eq_getElem?_getD,hl,hi]
   ·rw [if_neg hn,if_neg (fun h=>hn h.2),ih]
  ·have e:∀ c,((mstep best cs n).set n c).getD i Cel.zero=(mstep best cs n).getD i Cel.zero:=fun c=>by
    simp [List.getD_eq_getElem?_getD,List.getElem?_set_ne (Ne.symm hin)]
   have e2:(i<n+1∧newerB (cs.getD i Cel.zero) (best.getD i Cel.zero)=true) ↔ (i<n∧newerB (cs.getD i Cel.zero) (best.getD i Cel.zero)=true):=by
    constructor <;> rintro ⟨h1,h2⟩ <;> exact ⟨by omega,h2⟩
   split
   ·rw [e,ih]; simp only [e2]
   ·rw [ih]; simp only [e2]
def zeros8:List Cel:=List.replicate 8 Cel.zero
def mergeL (l:List Rp):List Cel:=l.foldl (fun b r=>mstep b r.cells 8) zeros8
theorem mergeL_len (l:List Rp):(mergeL l).length=8:=by
 have:∀ (l:List Rp) (b:List Cel),b.length=8→(l.foldl (fun b r=>mstep b r.cells 8) b).length=8:=by
  intro l
  induction l with
  | nil=>intro b h; exact h
  | cons r l ih=>intro b h; exact ih _ (by rw [mstep_len]; exact h)
 exact this l _ (by simp [zeros8])
theorem mergeL_take {l:List Rp} {k:Nat} (h:k<l.length):mergeL (l.take (k+1))=mstep (mergeL (l.take k)) l[k].cells 8:=by
 unfold mergeL
 rw [List.take_add_one,List.getElem?_eq_getElem h,List.foldl_append]
 rfl
def bestL (i:Nat) (l:List Rp):Cel:=l.foldl (fun b r=>if newerB (r.get i) b then r.get i else b) Cel.zero
theorem mergeL_get (l:List Rp) (i:Nat) (hi:i<8):(mergeL l).getD i Cel.zero=bestL i l:=by
 have:∀ (l:List Rp) (b:List Cel) (c:Cel),b.length=8→b.getD i Cel.zero=c→(l.foldl (fun b r=>mstep b r.cells 8) b).getD i Cel.zero=l.foldl (fun b r=>if newerB (r.get i) b then r.get i else b) c:=by
  intro l
  induction l with
  | nil=>intro b c _ h; exact h
  | cons r l ih =>
   intro b c hb h
   refine ih _ _ (by rw [mstep_len]; exact hb) ?_
   rw [mstep_get b r.cells i (by omega) 8,h]
   unfold Rp.get
   simp [hi]
 exact this l _ _ (by simp [zeros8]) (by unfold zeros8; rw [List.getD_eq_getElem?_getD,List.getElem?_replicate]; split <;> rfl)
theorem bestL_take {l:List Rp} {i k:Nat} (h:k<l.length):bestL i (l.take (k+1))=if newerB (l[k].get i) (bestL i (l.take k)) then l[k].get i else bestL i (l.take k):=by
 unfold bestL
 rw [List.take_add_one,List.getElem?_eq_getElem h,List.foldl_append]
 rfl
theorem zeros8_arr:(flat zeros8).toArray=#[.int .i64 0,.int .i64 0,.string ⟨#[]⟩,.int .i64 0,.int .i64 0,.string ⟨#[]⟩,.int .i64 0,.int .i64 0,.string ⟨#[]⟩,.int .i64 0,.int .i64 0,.string ⟨#[]⟩,.int .i64 0,.int .i64 0,.string ⟨#[]⟩,.int .i64 0,.int .i64 0,.string ⟨#[]⟩,.int .i64 0,.int .i64 0,.string ⟨#[]⟩,.int .i64 0,.int .i64 0,.string ⟨#[]⟩]:=rfl
theorem flat_cells {w:World} {b j:Nat} {m:List Cel} {T:TypeId} (h:w.heap[b]?=some (.cells (flat m).toArray T (0,0))) (hj:j<m.length) :
  (w.cell? ⟨b,j*3,none⟩=some (.int .i64 m[j].e)∧w.cell? ⟨b,j*3+1,none⟩=some (.int .i64 m[j].n)∧w.cell? ⟨b,j*3+2,none⟩=some (.string m[j].d)) ∧
  w.frozen? ⟨b,j*3,none⟩=false∧w.frozen? ⟨b,j*3+1,none⟩=false∧w.frozen? ⟨b,j*3+2,none⟩=false:=by
 obtain ⟨h1,h2,h3⟩:=flat_at m j hj
 simp [World.cell?,World.frozen?,h,h1,h2,h3]
theorem flat_set_arr (m:List Cel) (j:Nat) (c:Cel) (h:j<m.length) :
  (((flat m).toArray.setIfInBounds (j*3) (.int .i64 c.e)).setIfInBounds (j*3+1) (.int .i64 c.n)).setIfInBounds (j*3+2) (.string c.d)=(flat (m.set j c)).toArray:=by
 apply Array.toList_inj.1
 simp only [Array.toList_setIfInBounds]
 exact flat_set m j c h
theorem flat_size {m:List Cel} (h:m.length=8):(flat m).toArray.size=24:=by simp [flat_length,h]
theorem index_cells (l:List Cel) (j:Nat) (hl:l.length=8) (hj:j<8) (c:Cel) (hc:l[j]'(by omega)=c) (w:World) :
  (Instr.index 39 (.agg (flat l).toArray) (.int .i64 j)).run Tryz.prog w=.ok c.v w:=by
 have hs:(sizeOf 38).run Tryz.prog w=.ok 3 w:=by
  have hn:=cell_row.2
  cases hq:Tryz.prog.info? 38 with
  | none=>simp [hq] at hn
  | some i=>simp [hq] at hn; simp [sizeOf,typeInfo,hq,hn]
 unfold Instr.index
 simp only [asIntOf,Sem.run_bind,Sem.run_pure,Result.andThen_ok,run_underlying cells_row.1]
 rw [if_pos (by omega)]
 simp only [Sem.run_bind,hs,Result.andThen_ok,Int.toNat_natCast]
 rw [part_agg w cell_row.1 rfl cell_row.2,flat_part (by omega),hc]
theorem wpList_load_midA {P:Program} {ops:Array Oper} {rest:List Oper} {op:Oper} {a:Act} {w:World} {Q:Exit→Act→World→Prop} (hgd:op.guard=none) (ty:TypeId) (x:Operand) (ho:op.op=.load ty x)
  (b o:Nat) (hx:a.eval x=.pointer (some ⟨b,o,none⟩)) (cs:Array Value) (d:TypeDesc) (hc:w.rangeAt b o cs.toList)
  (hu:P.underlying ty=some d) (hd:d.isRow=true) (hi:(P.info? ty).map (·.size)=some cs.size)
  (h:wpList P ops Q rest (a.put op.dst (.agg cs)) w):wpList P ops Q (op :: rest) a w :=
 wpList_load_mid hgd ty x ho b o hx cs.toList d hc hu hd hi (by simpa using h)
theorem rp_cells_range {w:World} {b:Nat} {r:Rp} {T:TypeId} (h:w.heap[b]?=some (.cells r.arr T (0,0))):w.rangeAt b 1 (flat r.cells).toArray.toList:=fun j v hv=>by
 rw [cell_of_row w b (1+j) r.arr T (0,0) h]
 unfold Rp.arr
 rw [Nat.add_comm]
 simpa using hv
theorem newer_x {a b:Cel} {X:Bool} (h:newerB a b=X) (w:World):Calls Tryz.prog 96 #[a.v,b.v] w fun e w'=>e=.returned (.bool X)∧Below w.heap.size w w':=by
 have:=newer_any a b w
 rwa [h] at this
structure MG (w:World) (m:List Cel) (wx:World):Prop where
 below:Below w.heap.size w wx
 len:m.length=8
 hO:wx.heap[w.heap.size]?=some (.cells (flat zeros8).toArray 39 (0,0))
 hM:wx.heap[w.heap.size+1]?=some (.cells (flat m).toArray 39 (0,0))
theorem MG.big {w wx:World} {m:List Cel} (h:MG w m wx):w.heap.size+1<wx.heap.size:=(Array.getElem?_eq_some_iff.1 h.hM).1
theorem MG.over {w wx w':World} {m:List Cel} (h:MG w m wx) (b:Below wx.heap.size wx w'):MG w m w' :=
 ⟨h.below.trans (b.mono h.below.size),h.len,(b.block _ (Array.getElem?_eq_some_iff.1 h.hO).1).trans h.hO,(b.block _ h.big).trans h.hM⟩
theorem MG.put {w wx:World} {m:List Cel} (h:MG w m wx) (j:Nat) (c:Cel) (hj:j<m.length) :
  MG w (m.set j c) (((wx.setCell ⟨w.heap.size+1,j*3,none⟩ (.int .i64 c.e)).setCell ⟨w.heap.size+1,j*3+1,none⟩ (.int .i64 c.n)).setCell ⟨w.heap.size+1,j*3+2,none⟩ (.string c.d)):=by
 have kp:Keeps (·=w.heap.size+1) wx (((wx.setCell ⟨w.heap.size+1,j*3,none⟩ (.int .i64 c.e)).setCell ⟨w.heap.size+1,j*3+1,none⟩ (.int .i64 c.n)).setCell ⟨w.heap.size+1,j*3+2,none⟩ (.string c.d)) :=
  Keeps.setCell (S:=(·=w.heap.size+1)) (Keeps.setCell (S:=(·=w.heap.size+1)) (Keeps.setCell (S:=(·=w.heap.size+1)) (Keeps.refl _ _) rfl _) rfl _) rfl _
 refine ⟨h.below.trans (kp.below h.below.size (fun k hk=>by omega)),by simp [h.len],(kp.block _ (by omega) (Array.getElem?_eq_some_iff.1 h.hO).1).trans h.hO,?_⟩
 rw [← flat_set_arr m j c hj]
 exact block_setCell (block_setCell (block_setCell h.hM _) _) _
set_option maxRecDepth 100000 in
set_option maxHeartbeats 4000000 in
theorem merge_any (l:List Rp) (a:Option Addr) (cap:Nat) (w:World) (hl:l.length≤maxLen) (hr:RpsAt w a l) :
  Calls Tryz.prog 115 #[.slice a l.length cap] w fun e w'=>e=.returned (.agg (flat (mergeL l)).toArray)∧Below w.heap.size w w':=by
 unfold maxLen at hl
 have HR:=Lib.hid hr
 clear hr
 go_enter Tryz.func115,Tryz.ntmps115
 go_upto_region 2 with fail
 obtain ⟨w1,hw1⟩:∃ w1,w1=(w.alloc (.cells (flat zeros8).toArray 39)).alloc (.cells (flat zeros8).toArray 39):=⟨_,rfl⟩
 rw [zeros8_arr] at hw1
 rw [← hw1]
 rw [← zeros8_arr] at hw1
 have HM1:=Lib.hid (show MG w zeros8 w1 from hw1▸⟨(bal w _).alloc (by simp) _,rfl,heap_alloc2_old w _ _,heap_alloc2_new w _ _⟩)
 clear hw1
 go_wp2
 go_loopw [10] (fun i wr=>∃ k:Nat,k≤l.length∧i=.int .i64 k∧MG w (mergeL (l.take k)) wr) (fun i _=>l.length - (intOf i).toNat)
 case atStart =>
  exact ⟨0,by omega,rfl,by simpa [mergeL] using HM1.out⟩
 case round =>
  obtain ⟨k,hk,rfl,mg⟩:=hrel
  have HMG:=Lib.hid mg
  clear mg HM1
  by_cases hlt:k<l.length
  ·obtain ⟨h8,bb,oo,rfl,hbs,hra⟩:=HR.out k hlt
   have HRA:=Lib.hid (show wr.rangeAt bb (oo+k*25) l[k].arr.toList from fun j v hv=>(HMG.out.below.cell (p:=⟨bb,_,none⟩) hbs).trans (hra j v hv))
   have HL8:=Lib.hid h8
   have hz:=Lib.hid (Rp.size h8)
   clear hra h8
   obtain ⟨R,hR⟩:∃ R,l[k]=R:=⟨_,rfl⟩
   have HMT:=Lib.hid (show mergeL (l.take (k+1))=mstep (mergeL (l.take k)) R.cells 8 from hR▸mergeL_take hlt)
   rw [hR] at HRA HL8 hz
   clear hR
   have hu:=HMG.out.big
   go_upto_region 5 with (first | (refine wpList_load_midA rfl 41 _ rfl bb (oo+k*25) rfl R.arr _ HRA.out rp_row.1 rfl (by rw [rp_row.2.1,hz.out]) ?_) | (refine wpList_store_row rfl 41 _ _ rfl wr.heap.size R.arr rfl rfl 41 Rp.zero.arr (heap_alloc_new wr _) (by rw [rp_row.2.1,hz.out]) (by rw [hz.out]; rfl) (Rp.one _) ?_))
   obtain ⟨w2,hw2⟩:∃ w2,w2=(wr.alloc (.cells Rp.zero.arr 41)).setRow wr.heap.size R.arr:=⟨_,rfl⟩
   rw [rp_zero_arr] at hw2
   rw [← hw2]
   have HM2:=Lib.hid (show MG w (mergeL (l.take k)) w2 from hw2▸HMG.out.over (bel_row wr _ _ _))
   have HN2:=Lib.hid (show w2.heap[wr.heap.size]?=some (.cells R.arr 41 (0,0)) from hw2▸setRow_heap _ _ _ _ _ _ (heap_alloc_new wr _))
   clear hw2 HMG
   have hz2:=Lib.hid (flat_size HL8.out)
   go_wp2_with (refine wpList_load_midA rfl 39 _ rfl wr.heap.size 1 rfl (flat R.cells).toArray _ (rp_cells_range HN2.out) cells_row.1 rfl (by rw [cells_row.2,hz2.out]) ?_)
   go_loopw [16] (fun i wz=>∃ j:Nat,j≤8∧i=.int .i64 j∧MG w (mstep (mergeL (l.take k)) R.cells j) wz) (fun i _=>8 - (intOf i).toNat)
   case atStart=>exact ⟨0,by omega,rfl,HM2.out⟩
   case round =>
    obtain ⟨j,hj,rfl,mg⟩:=hrel
    obtain ⟨m,hm⟩:∃ m,mstep (mergeL (l.take k)) R.cells j=m:=⟨_,rfl⟩
    rw [hm] at mg
    have HMG:=Lib.hid mg
    have HM:=Lib.hid hm
    clear mg HM2 hm
    by_cases hj8:j<8
    ·obtain ⟨c,hc⟩:∃ c,R.cells[j]'(by rw [HL8.out]; exact hj8)=c:=⟨_,rfl⟩
     have hidx:=index_cells R.cells j HL8.out hj8 c hc
     have hjm:j<m.length:=by rw [HMG.out.len]; exact hj8
     obtain ⟨b,hb⟩:∃ b,m[j]=b:=⟨_,rfl⟩
     have HC:=Lib.hid (show R.cells.getD j Cel.zero=c∧m.getD j Cel.zero=b from ⟨by rw [← hc]; simp [HL8.out,hj8],by rw [← hb]; simp [hjm]⟩)
     clear hc hb hjm
     have hk8:decide ((j:Int)<8)=true:=by simpa using (by omega:(j:Int)<8)
     go_upto_region 8 with fail
     obtain ⟨w3,hw3⟩:∃ w3,w3=wr.alloc (.cells #[.int .i64 c.e,.int .i64 c.n,.string c.d] 38):=⟨_,rfl⟩
     rw [← hw3]
     have HM3:=Lib.hid (show MG w m w3 from hw3▸HMG.out.over (bal wr _))
     have HX3:=Lib.hid (show w3.heap[wr.heap.size]?=some (.cells #[.int .i64 c.e,.int .i64 c.n,.string c.d] 38 (0,0)) from hw3▸heap_alloc_new wr _)
     clear hw3
     obtain ⟨c0,c1,c2⟩:=cell_box HX3.out
     have hjm:j<m.length:=by rw [HM3.out.len]; exact hj8
     obtain ⟨⟨b0,b1,b2⟩,-⟩:=flat_cells HM3.out.hM hjm
     have hb:m[j]=b:=by have:=HC.out.2; simpa [hjm] using this
     rw [hb] at b0 b1 b2
     obtain ⟨X,hX⟩:∃ X,newerB c b=X:=⟨_,rfl⟩
     have HXX:=Lib.hid hX
     have NW:=Lib.hid (fun (w:World)=>newer_x hX w)
     clear hb hX hjm hidx
     have hv1:wr.heap.size<w3.heap.size:=(Array.getElem?_eq_some_iff.1 HX3.out).1
     have hv2:w.heap.size+1<w3.heap.size:=HM3.out.big
     have hq:=bregrown (Below.refl w3.heap.size w3)
     go_cut [24] (fun v wx=>v=.bool X∧Below w3.heap.size w3 wx)
     case first =>
      refine wp_region_quiet_below (by kernel_rfl) (by kernel_rfl) ?_
      repeat (go_big_quiet_step (exact Calls.regrown_of (NW.out _)))
      refine wpQuiet_nil ?_
      rintro w' ⟨⟨dq,osq⟩,rfl⟩
      go_wp2_with fail
      go_meet
      exact ⟨rfl,below_regrown _ dq osq⟩
     case rest =>
      obtain ⟨rfl,b4⟩:=hcut
      have HM4:=Lib.hid (HM3.out.over b4)
      have HX4:=Lib.hid ((b4.block _ hv1).trans HX3.out)
      clear b4 hq c0 c1 c2 b0 b1 b2 hv1 hv2
      have HST:=Lib.hid (show mstep (mergeL (l.take k)) R.cells (j+1)=if X then m.set j c else m from by
       show (if newerB (R.cells.getD j Cel.zero) ((mstep (mergeL (l.take k)) R.cells j).getD j Cel.zero) then _ else _)=_
       rw [HM.out,HC.out.1,HC.out.2,HXX.out])
      cases X
      ·go_wp2
       exact ⟨⟨j+1,by omega,by simp,by rw [HST.out]; exact HM4.out⟩,by simp [intOf]; omega⟩
      ·obtain ⟨c0,c1,c2⟩:=cell_box HX4.out
       have hjm:j<m.length:=by rw [HM4.out.len]; exact hj8
       obtain ⟨⟨b0,b1,b2⟩,f0,f1,f2⟩:=flat_cells HM4.out.hM hjm
       have hb:m[j]=b:=by have:=HC.out.2; simpa [hjm] using this
       rw [hb] at b0 b1 b2
       have HP:=Lib.hid (HM4.out.put j c hjm)
       clear hb hjm
       go_wp2
       exact ⟨⟨j+1,by omega,by simp,by rw [HST.out]; exact HP.out⟩,by simp [intOf]; omega⟩
    ·obtain rfl:j=8:=by omega
     go_wp2
     exact ⟨⟨k+1,by omega,by simp,by rw [HMT.out,HM.out]; exact HMG.out⟩,by simp [intOf]; omega⟩
  ·obtain rfl:k=l.length:=by omega
   have HT:=Lib.hid (show mergeL (l.take l.length)=mergeL l from by rw [List.take_length])
   have hzm:=Lib.hid (flat_size (mergeL_len (l.take l.length)))
   go_wp2_with (first | (refine wpList_load_row rfl 39 _ rfl (w.heap.size+1) rfl 39 (flat (mergeL (l.take l.length))).toArray (0,0) _ HMG.out.hM cells_row.1 rfl (by rw [cells_row.2,hzm.out]) ?_) | (refine wpList_store_row rfl 39 _ _ rfl w.heap.size (flat (mergeL (l.take l.length))).toArray rfl rfl 39 (flat zeros8).toArray HMG.out.hO (by rw [cells_row.2,hzm.out]) (by rw [hzm.out]; rfl) (all_oneCell_toArray (flat_one _)) ?_))
   refine bodyPost_ret (v:=.agg (flat (mergeL l)).toArray) (by rw [← HT.out]; exact results_row1 Tryz.results115 _ _ w.heap.size 39 _ (0,0) _ rfl (setRow_heap _ _ _ _ _ _ HMG.out.hO) cells_row.1 rfl (by rw [cells_row.2,hzm.out])) rfl ?_
   exact ⟨rfl,HMG.out.below.trans (((Keeps.refl (·=w.heap.size) wr).setRow rfl _).below HMG.out.below.size (fun m hm=>by omega))⟩
end Go.Proofs.YtbkmdmmgalmmaaaGreatDoor
