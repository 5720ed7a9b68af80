/-
  Arguments opened: a slice of numbers.
-/
import Derived.Test.YtbkmdmmgalmmaaaGreatDoorQ04
import Derived.Test.YtbkmdmmgalmmaaaGreatDoorQ07
import Derived.Test.YtbkmdmmgalmmaaaGreatDoorQ11
namespace Go.Proofs.YtbkmdmmgalmmaaaGreatDoor
open Go.ChangeShapes Go.WideShapes Go.ChangeAt Go.RowKit Go.Deep
section
variable {H:Type} {enc:TypeId × Value→H} {w:World} {base:Nat}
theorem ints_list (w:World) (a:Addr):∀ n,(∀ i,i<n→∃ u:Int,inI u∧w.cell? (a.add i)=some (.int .i64 u))→∃ l:List Int,l.length=n∧∀ i (h:i<l.length),inI l[i]∧w.cell? (a.add i)=some (.int .i64 l[i])
 | 0,_=>⟨[],rfl,fun i h=>absurd h (by simp)⟩
 | k+1,key=>by
  obtain ⟨l,hl,hl2⟩:=ints_list w a k (fun i hi=>key i (by omega))
  obtain ⟨u,hu⟩:=key k (by omega)
  refine ⟨l ++ [u],by simp [hl],fun i h=>?_⟩
  by_cases hik:i<l.length
  ·rw [List.getElem_append_left hik]; exact hl2 i hik
  ·have:i=k:=by simp at h; omega
   subst this
   rw [List.getElem_append_right (by omega)]
   simp only [hl,Nat.sub_self,List.getElem_cons_zero]
   exact hu
set_option maxRecDepth 100000 in
theorem open_numbers {r:Reach} {b0:Nat} {v:Value} {d:DataW H} {p:List MemPlace} (hv:Value.okWide Tryz.prog w r b0 54 v) (h:DataW.Trod enc Tryz.prog w base (fun _=>true) true 54 v d p) :
  ∃ (l:List Int) (a:Option Addr) (cap:Nat),v=.slice a l.length cap∧(l.length≤maxLen∧Ints w.heap.size w a l∧∀ x∈l,inI x):=by
 obtain ⟨a0,len,cap,rfl⟩:=okWide_slice Tryz.underlying54 hv
 obtain ⟨fuel,hf⟩:=h
 have hC3:Tryz.prog.cellsOf 3=1:=by kernel_rfl
 rcases open_slice Tryz.underlying54 hf with ⟨hcs,_⟩ | ⟨a',len',cap',m,n',D,Pl,hcs,hbs,hl,hm,hmm,hx1,hi⟩
 ·have:Value.slice a0 len cap=.slice none 0 0:=by simpa [Value.cells] using hcs
  cases this
  exact ⟨[],none,0,rfl,by simp,fun i hi=>absurd hi (by simp),fun x hx=>by cases hx⟩
 ·have:Value.slice a0 len cap=.slice (some a') len' cap':=by simpa [Value.cells] using hcs
  cases this
  have hml:len≤m:=by rw [hmm]; split <;> omega
  have key:∀ i,i<len→∃ u:Int,inI u∧w.cell? (a'.add i)=some (.int .i64 u):=by
   intro i hi'
   obtain ⟨cs',hc,ht'⟩:=hi i (by omega)
   rw [hC3] at hc
   obtain ⟨u,eu,_,hw⟩:=DataW.trod_int Tryz.underlying3 ht'
   obtain ⟨_,hlen,hat⟩:=World.cells?_some hc
   subst eu
   refine ⟨u,wf_i64 hw,?_⟩
   have:=hat 0 (by simp)
   simpa [Addr.add] using this
  obtain ⟨l,hll,hl2⟩:=ints_list w a' len key
  subst hll
  refine ⟨l,some a',cap,rfl,by omega,fun i (hi':i<l.length)=>?_,fun x hx=>?_⟩
  ·obtain ⟨-,c1⟩:=hl2 i hi'
   obtain ⟨ab,ao,asp⟩:=a'
   have has:asp=none:=by
    cases asp with
    | none=>rfl
    | some z =>
     exfalso
     have c0:=(hl2 0 (by omega)).2
     simp [Addr.add,World.cell?] at c0
     split at c0 <;> simp at c0
   subst has
   refine ⟨ab,ao,rfl,block_lt_of_cell (hl2 0 (by omega)).2,?_⟩
   cases i with
   | zero=>simpa [Addr.add] using c1
   | succ j=>simpa [Addr.add] using c1
  ·obtain ⟨j,hj,rfl⟩:=List.mem_iff_getElem.1 hx
   exact (hl2 j hj).1
end
end Go.Proofs.YtbkmdmmgalmmaaaGreatDoor
