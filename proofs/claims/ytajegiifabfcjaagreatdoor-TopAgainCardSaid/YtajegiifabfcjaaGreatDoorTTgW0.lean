/-
  Contract: a target's method Waiting, where nothing waits.
-/
import Derived.Test.YtajegiifabfcjaaGreatDoorQ29
import Derived.Test.YtajegiifabfcjaaGreatDoorQS
import Derived.Maps.RangeRun
import Derived.Maps.RangeWalk
namespace Go.Proofs.YtajegiifabfcjaaGreatDoor
open Go.RowKit Go.Sort
section
variable {P:Program} {ops:Array Oper} {rest:List Oper} {o:Oper} {a:Act} {w:World} {Q:Exit→Act→World→Prop}
theorem range_any (hg:o.guard=none) (m:Operand) (t:TypeId) (hop:o.op=Op.range t m) (k e:TypeId) (ht:P.underlying t=some (.map k e)) (b:Nat) (es:Array MapEntry) (clock:Nat) (hm:a.eval m=.map (some b)) (hb:w.heap[b]?=some (.map es clock))
  (h:wpList P ops Q rest (a.put o.dst (.pointer (some ⟨w.heap.size,0,none⟩))) (w.alloc (.mapIter (some b) clock #[] clock))):wpList P ops Q (o :: rest) a w:=by
 refine wpList_plain hg fun K' hK'=>?_
 unfold Oper.wp
 simp [execOp,hop,hm,run_range_map w t k e b es clock ht hb,Result.andThen]
 exact hK' _ _ h
theorem next_none (hg:o.guard=none) (it:Operand) (hop:o.op=Op.next it false) (r b since c0 clock:Nat) (hit:a.eval it=.pointer (some ⟨r,0,none⟩)) (hr:w.heap[r]?=some (.mapIter (some b) since #[] c0)) (hb:w.heap[b]?=some (.map #[] clock)) (hsc:since≤c0)
  (h:wpList P ops Q rest (a.put o.dst (.tuple #[.bool false])) w):wpList P ops Q (o :: rest) a w:=by
 refine wpList_plain hg fun K' hK'=>?_
 have hrun:(Instr.next (.pointer (some ⟨r,0,none⟩)) false o.type).run P w=.ok (.tuple #[.bool false]) w:=by
  rcases run_next_at (P:=P) w o.type r b since c0 #[] #[] clock hr hb (fun x hx=>by cases hx) hsc with h0 | ⟨e,he,-⟩
  ·exact h0.2
  ·simp [leftOf] at he
 unfold Oper.wp
 simp [execOp,hop,hit,hrun,Result.andThen]
 exact hK' _ _ h
end
section
variable (w0 w:World) (n D T:Nat) (t:Tg) (Y:Nat→Prop)
set_option maxRecDepth 100000 in
set_option maxHeartbeats 4000000 in
theorem twaiting_none (h:TgR w0 n D T t Y w) (hw:t.wait=[]) :
  Calls Tryz.prog 42 #[.pointer (some ⟨T,0,none⟩)] w fun e w'=>(∃ a c,e=.returned (.slice a 0 c))∧Below w.heap.size w w':=by
 obtain ⟨X,m,ki,tb,lo,hy⟩:=h
 have c0:=(tg_cells tb.blk tb.ok).1.2.2.2.2.2.2.2.1
 have hT:=(Array.getElem?_eq_some_iff.1 tb.blk).1
 have hwl:waitL t.wait m.hm=[]:=by rw [hw]; rfl
 obtain ⟨es,cl,hb,he⟩:=tb.wait
 rw [hwl] at he
 obtain rfl:es=#[]:=by
  have:es.toList=[]:=List.map_eq_nil_iff.1 he
  exact Array.toList_eq_nil_iff.1 this
 have HB:=Lib.hid hb
 have hlt:=(Array.getElem?_eq_some_iff.1 hb).1
 obtain ⟨w1,hw1⟩:∃ w1,w1=w.alloc (.mapIter (some m.W) cl #[] cl):=⟨_,rfl⟩
 have B1:=Lib.hid (show Below w.heap.size w w1 from hw1▸bal w _)
 have R1:=Lib.hid (show w1.heap[w.heap.size]?=some (.mapIter (some m.W) cl #[] cl) from hw1▸heap_alloc_new w _)
 have M1:=Lib.hid (show w1.heap[m.W]?=some (.map #[] cl) from (B1.out.block _ hlt).trans hb)
 clear ki tb lo hy hw hwl he hb hlt
 go_enter Tryz.func42,Tryz.ntmps42
 go_upto_region 3 with (refine range_any rfl _ _ rfl _ _ Tryz.underlying108 m.W #[] cl rfl HB.out ?_)
 rw [← hw1]
 clear hw1
 have SO:=Lib.hid (fun p cap w=>Tryz.slices_Sort_int_none p cap w)
 refine wp_loop_rounds 1 ?_
 rw [rounds_succ]
 go_wp2_with (refine next_none rfl _ rfl _ _ cl cl cl rfl R1.out M1.out (Nat.le_refl _) ?_)
 refine (SO.out _ _ _).mono ?_
 rintro e w2 ⟨rfl,rfl⟩
 go_wp2
 go_ret
 exact ⟨⟨_,_,rfl⟩,B1.out⟩
end
end Go.Proofs.YtajegiifabfcjaaGreatDoor
