/-
  What is common to the walks of the great ones on targets: the errors' range, and small facts.
-/
import Derived.Test.YtajegiifabfcjaaGreatDoorTTgArm
import Derived.Test.YtajegiifabfcjaaGreatDoorQ34
namespace Go.Proofs.YtajegiifabfcjaaGreatDoor
open Go.RowKit Go.Sort
theorem asked_err {t:Tg} {c:Cmd} {u:Tg} {a:Ans} (o:Asked t c u a):0≤a.err∧a.err≤100:=by
 have g:∀ f:Int,0≤f→f≤100→0≤(Ans.bad f).err∧(Ans.bad f).err≤100:=fun f h1 h2=>⟨h1,h2⟩
 cases o with
 | no=>exact g 4 (by omega) (by omega)
 | busy=>exact g 7 (by omega) (by omega)
 | read=>exact ⟨Int.le_refl 0,by show (0:Int)≤100; omega⟩
 | refused _ _ _ f hf=>rcases hf with ⟨-,rfl⟩ | ⟨-,-,rfl⟩ <;> exact g _ (by omega) (by omega)
 | full=>exact g 6 (by omega) (by omega)
 | write=>exact ⟨Int.le_refl 0,by show (0:Int)≤100; omega⟩
theorem six_err {n:Nat} {S:Cel→Prop} {B:Int} {t:Tg} (h:TI n S B t) {c:Cmd} (hf:cmdFault c=0) (ho:7≤c.op) {r:Tg × ByteArray × Int × Int} (hr:t.askN n c 6=r):0≤r.2.2.2∧r.2.2.2≤100:=by
 obtain ⟨u,a,o,e⟩:=asked_six h hf ho
 rw [hr] at e
 subst e
 exact asked_err o
section
variable {P:Program} {ops:Array Oper} {rest:List Oper} {o:Oper} {a:Act} {w:World} {Q:Exit→Act→World→Prop}
theorem bin_g1 (op:BinOp) (t u:TypeId) (x y:Operand) (ho:o.op=.binOp op t x y u)
  (h:Region.wanted o (yielded ops a.tmps)=true∧∃ (xs ys:Array Value) (v:Value),a.eval x=.agg xs∧a.eval y=.agg ys∧P.eqGuardType P.depth t=false∧(∀ w,(binOp op t (.agg xs) (.agg ys)).run P w=.ok v w)∧wpList P ops Q rest (a.put o.dst v) w):wpList P ops Q (o :: rest) a w:=by
 obtain ⟨hw,xs,ys,v,h1,h2,h3,h4,h5⟩:=h
 unfold wpList
 rw [if_pos hw]
 refine .inl ?_
 unfold Oper.wp execOp
 simp only [ho,h1,h2,Sem.run_bind,Sem.run_pure,Result.andThen_ok,run_eqGuard_agg _ op t x y xs ys h3,h4]
 exact h5
theorem ld_row_g1 (ty:TypeId) (x:Operand) (ho:o.op=.load ty x)
  (h:Region.wanted o (yielded ops a.tmps)=true∧∃ (g:Nat) (t:TypeId) (cs:Array Value) (d:TypeDesc),a.eval x=.pointer (some ⟨g,0,none⟩)∧w.heap[g]?=some (.cells cs t (0,0))∧P.underlying ty=some d∧d.isRow=true∧(P.info? ty).map (·.size)=some cs.size∧wpList P ops Q rest (a.put o.dst (.agg cs)) w):wpList P ops Q (o :: rest) a w:=by
 obtain ⟨hw,g,t,cs,d,h1,h2,h3,h4,h5,h6⟩:=h
 exact wpList_load_row_g hw ty x ho g h1 t cs (0,0) d h2 h3 (by cases d <;> simp_all) h5 h6
end
theorem eqg_cell:Tryz.prog.eqGuardType Tryz.prog.depth 30=false:=by kernel_rfl
def cRd (who at':Int):Cmd:=⟨7,who,0,0,0,at',false,⟨#[]⟩,⟨#[]⟩⟩
theorem rd_fault {who at':Int} (hw:1≤who∧who≤4) (ha:0≤at'∧at'≤7):cmdFault (cRd who at')=0:=by
 have hp:cfP (cRd who at')=0:=(show cfP (cRd 1 0)=0 from by decide +kernel)
 show (if (7:Int)<1∨(9:Int)<7 then 2 else if who<1∨4<who then 1 else stage (decide ((7:Int)≤6)) 0 999 (stage (decide ((7:Int)=1∨(7:Int)=2∨(7:Int)=6)) 0 999 (stage (decide ((7:Int)≤7)) at' 7 (cfP (cRd who at')))))=0
 rw [hp,if_neg (by omega),if_neg (by omega)]
 unfold stage
 rw [if_neg (by simp),if_neg (by omega),if_neg (by simp),if_neg (by omega),if_neg (by simp),if_neg (by omega)]
theorem TJ.tgn {n:Nat} {S:Cel→Prop} {B:Int} {t:Tg} (h:TJ n S B t) (hB:B+2<1000000000000000):TgN n t:=⟨h.kg,h.ti.qi.ok,by have:=h.ti.kb; omega⟩
end Go.Proofs.YtajegiifabfcjaaGreatDoor
