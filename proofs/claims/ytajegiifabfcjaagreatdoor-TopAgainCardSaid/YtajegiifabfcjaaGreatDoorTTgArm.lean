/-
  A target's disk is armed, or begins anew; number of any error.
-/
import Derived.Test.YtajegiifabfcjaaGreatDoorQ26
namespace Go.Proofs.YtajegiifabfcjaaGreatDoor
open Go.RowKit Go.Sort
section
variable (w0 w:World) (n D T:Nat) (t:Tg) (Y:Nat→Prop)
theorem tarm_any (p:Int) (h:TgR w0 n D T t Y w) :
  Calls Tryz.prog 38 #[.pointer (some ⟨D,0,none⟩),.int .i64 p] w fun e w'=>e=.returned (.tuple #[])∧TgR w0 n D T { t with k:={ t.k with d:={ t.k.d with fuse:=max p (-1) } } } Y w'∧Same Y w w':=by
 obtain ⟨X,m,ki,tb,lo,hy⟩:=h
 refine (armI n w0 w X D m.K t.k p ki).mono ?_
 rintro e w' ⟨rfl,ki',sm⟩
 exact ⟨rfl,⟨X,m,ki',(tb.same sm ki'.lt).setK _,lo,hy⟩,fun b hb=>sm b (hy b hb).1⟩
theorem trestart_any (keep:Int) (h:TgR w0 n D T t Y w) (ok:t.k.d.ok n) (hwl:t.k.d.wait.length≤1000) :
  Calls Tryz.prog 39 #[.pointer (some ⟨D,0,none⟩),.int .u64 keep] w fun e w'=>e=.returned (.tuple #[])∧TgR w0 n D T { t with k:={ t.k with d:=t.k.d.restart keep } } Y w'∧Same Y w w':=by
 obtain ⟨X,m,ki,tb,lo,hy⟩:=h
 refine (restartI n w0 w X D m.K t.k keep ki ok hwl).mono ?_
 rintro e w' ⟨rfl,ki',sm⟩
 exact ⟨rfl,⟨X,m,ki',(tb.same sm ki'.lt).setK _,lo,hy⟩,fun b hb=>sm b (hy b hb).1⟩
end
set_option maxRecDepth 100000 in
theorem tpnum_any (f:Int) (hf:0≤f∧f≤100) (w:World):Calls Tryz.prog 28 #[.iface 95 (.int .i64 f)] w fun e w'=>e=.returned (.int .i64 f)∧Below w.heap.size w w':=by
 have hta:=fun w=>assert_errno w (.int .i64 f)
 have q:IntKind.i64.wrap f=f:=IntWalk.i64_in _ (by omega)
 go_enter Tryz.func28,Tryz.ntmps28
 go_wp2
 go_ret
 exact ⟨rfl,Below.refl _ _⟩
theorem number_err (f:Int) (hf:0≤f∧f≤100) (w:World):Calls Tryz.prog 28 #[errV f] w fun e w'=>e=.returned (.int .i64 f)∧Below w.heap.size w w':=by
 by_cases h:f=0
 ·subst h
  rw [errV_nil]
  exact number_nil w
 ·rw [errV_some h]
  exact tpnum_any f hf w
end Go.Proofs.YtajegiifabfcjaaGreatDoor
