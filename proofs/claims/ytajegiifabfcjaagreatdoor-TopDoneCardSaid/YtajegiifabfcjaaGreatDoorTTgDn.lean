/-
  Done: was a command that waited done? By a look-up in the target's map.
-/
import Derived.Test.YtajegiifabfcjaaGreatDoorQ26
namespace Go.Proofs.YtajegiifabfcjaaGreatDoor
open Go.RowKit Go.Sort
theorem run_lookup_int0 {P:Program} {w:World} {T kt et:TypeId} (hT:P.underlying T=some (.map kt et)) (hk:P.underlying kt=some (.int .i64)) {b:Nat} {l:List (Int × Value)} (h:IMap w b l) (k:Int) {z:Value} (hz:(zeroValue et).run P w=.ok z w) :
  (Instr.lookup T (.map (some b)) (.int .i64 k) false).run P w=.ok (match findI k l 0 with | some r=>r.2 | none=>z) w:=by
 obtain ⟨es,cl,hb,he⟩:=h
 have hf:=findNow_int k es.toList l 0 he
 cases hfi:findI k l 0 with
 | none =>
  rw [hfi] at hf
  simp [Instr.lookup,run_underlying hT,MapKept.run_getObj_map hb,MapKept.run_checkKey (k:=.int .i64 k) hk rfl,MapKept.run_findKey hk hf,hz,Result.andThen]
 | some r =>
  obtain ⟨i,v⟩:=r
  rw [hfi] at hf
  simp [Instr.lookup,run_underlying hT,MapKept.run_getObj_map hb,MapKept.run_checkKey (k:=.int .i64 k) hk rfl,MapKept.run_findKey hk hf,Result.andThen]
theorem find_bool (k:Int):∀ (l:List Int) (i:Nat),(k∈l→∃ j,findI k (boolL l) i=some (j,.bool true))∧(k ∉ l→findI k (boolL l) i=none)
 | [],_=>⟨fun h=>(by cases h),fun _=>rfl⟩
 | x :: l,i=>by
  have h1:=(find_bool k l (i+1)).1
  have h2:=(find_bool k l (i+1)).2
  have e:findI k (boolL (x :: l)) i=if x=k then some (i,.bool true) else findI k (boolL l) (i+1):=rfl
  rw [e]
  by_cases hx:x=k
  ·rw [if_pos hx]
   exact ⟨fun _=>⟨i,rfl⟩,fun hn=>absurd (by rw [hx]; simp) hn⟩
  ·rw [if_neg hx]
   exact ⟨fun hm=>h1 ((List.mem_cons.1 hm).resolve_left (fun q=>hx q.symm)),fun hn=>h2 (fun q=>hn (List.mem_cons_of_mem _ q))⟩
section
variable (w0 w:World) (n D T:Nat) (t:Tg) (Y:Nat→Prop)
set_option maxRecDepth 100000 in
theorem tdone_any (tag:Int) (h:TgR w0 n D T t Y w) :
  Calls Tryz.prog 31 #[.pointer (some ⟨T,0,none⟩),.int .i64 tag] w fun e w'=>e=.returned (.bool (decide (tag∈t.done)))∧w'=w:=by
 obtain ⟨X,m,ki,tb,lo,hy⟩:=h
 have c0:=(tg_cells tb.blk tb.ok).1.2.2.2.2.2.2.2.2.2
 have hl:=run_lookup_int0 (P:=Tryz.prog) Tryz.underlying109 Tryz.underlying3 tb.done tag (z:=.bool false) (by kernel_rfl)
 obtain ⟨B,hB⟩:∃ B,decide (tag∈t.done)=B:=⟨_,rfl⟩
 have hlk:(Instr.lookup 109 (.map (some m.N)) (.int .i64 tag) false).run Tryz.prog w=.ok (.bool B) w:=by
  rw [hl,← hB]
  by_cases hm:tag∈t.done
  ·obtain ⟨j,e⟩:=(find_bool tag t.done 0).1 hm
   rw [e,decide_eq_true hm]
  ·rw [(find_bool tag t.done 0).2 hm,decide_eq_false hm]
 rw [hB]
 clear ki tb lo hy hl hB
 go_enter Tryz.func31,Tryz.ntmps31
 go_wp2
 go_ret
 exact ⟨rfl,rfl⟩
end
end Go.Proofs.YtajegiifabfcjaaGreatDoor
