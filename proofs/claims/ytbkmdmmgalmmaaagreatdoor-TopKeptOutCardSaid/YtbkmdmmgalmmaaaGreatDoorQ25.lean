/-
  Maps keyed by integers, as lists of entries in the order in which they came: a look-up, a store, a removal, how many. (No program in sight.)
-/
import Derived.Test.YtbkmdmmgalmmaaaGreatDoorQ13
namespace Go.Proofs.YtbkmdmmgalmmaaaGreatDoor
open Go.RowKit
def IMap (w:World) (b:Nat) (l:List (Int × Value)):Prop :=
 ∃ es cl,w.heap[b]?=some (.map es cl)∧es.toList.map (fun e=>(e.key,e.val))=l.map fun p=>(Value.int .i64 p.1,p.2)
theorem IMap.lt {w:World} {b:Nat} {l:List (Int × Value)} (h:IMap w b l):b<w.heap.size:=by
 obtain ⟨_,_,h,_⟩:=h
 exact (Array.getElem?_eq_some_iff.1 h).1
theorem IMap.move {w w':World} {b:Nat} {l:List (Int × Value)} (h:IMap w b l) (e:w'.heap[b]?=w.heap[b]?):IMap w' b l:=by
 obtain ⟨es,cl,h,he⟩:=h
 exact ⟨es,cl,e.trans h,he⟩
theorem IMap.new (w:World):IMap (w.alloc (.map #[] 0)) w.heap.size []:=⟨#[],0,heap_alloc_new w _,rfl⟩
def findI (k:Int):List (Int × Value)→Nat→Option (Nat × Value)
 | [],_=>none
 | p :: l,i=>if p.1=k then some (i,p.2) else findI k l (i+1)
def putI (l:List (Int × Value)) (k:Int) (v:Value):List (Int × Value):=match findI k l 0 with | some r=>l.set r.1 (k,v) | none=>l ++ [(k,v)]
def delI (l:List (Int × Value)) (k:Int):List (Int × Value):=match findI k l 0 with | some r=>l.eraseIdx r.1 | none=>l
theorem findI_spec (k:Int):∀ (l:List (Int × Value)) (i:Nat) (r:Nat × Value),findI k l i=some r→∃ j,r.1=i+j∧l[j]?=some (k,r.2)
 | [],_,_,h=>by cases h
 | p :: l,i,r,h=>by
  unfold findI at h
  by_cases hk:p.1=k
  ·rw [if_pos hk] at h
   cases h
   exact ⟨0,rfl,by rw [← hk]; rfl⟩
  ·rw [if_neg hk] at h
   obtain ⟨j,h1,h2⟩:=findI_spec k l (i+1) r h
   exact ⟨j+1,by omega,by simpa using h2⟩
theorem findNow_int (k:Int):∀ (es:List MapEntry) (l:List (Int × Value)) (i:Nat),es.map (fun e=>(e.key,e.val))=l.map (fun p=>(Value.int .i64 p.1,p.2))→Instr.findNow (.int .i64) (.int .i64 k) es i=some (findI k l i)
 | [],[],_,_=>rfl
 | [],_ :: _,_,h=>by simp at h
 | _ :: _,[],_,h=>by simp at h
 | e :: es,p :: l,i,h=>by
  simp only [List.map_cons,List.cons.injEq,Prod.mk.injEq] at h
  obtain ⟨⟨h1,h2⟩,h3⟩:=h
  have e0:Instr.sameNow (.int .i64) (.int .i64 k) e.key=some (k == p.1):=by rw [h1]; simp [Instr.sameNow]
  unfold Instr.findNow findI
  rw [e0,h2]
  by_cases hk:p.1=k
  ·rw [if_pos hk,hk]; simp
  ·rw [if_neg hk]
   have:(k == p.1)=false:=by simpa using Ne.symm hk
   rw [this]
   exact findNow_int k es l (i+1) h3
section
variable {P:Program} {w:World} {T kt et:TypeId} (hT:P.underlying T=some (.map kt et)) (hk:P.underlying kt=some (.int .i64)) {b:Nat} {l:List (Int × Value)} (h:IMap w b l) (k:Int)
include hT hk h
theorem run_lookup_int {z:Value} (hz:(zeroValue et).run P w=.ok z w) :
  (Instr.lookup T (.map (some b)) (.int .i64 k) true).run P w=.ok (match findI k l 0 with | some r=>.tuple #[r.2,.bool true] | none=>.tuple #[z,.bool false]) w:=by
 obtain ⟨es,cl,hb,he⟩:=h
 have hf:=findNow_int k es.toList l 0 he
 cases hfi:findI k l 0 with
 | none =>
  rw [hfi] at hf
  simp [Instr.lookup,run_underlying hT,MapKept.run_getObj_map hb,MapKept.run_checkKey (k:=.int .i64 k) hk rfl,MapKept.run_findKey hk hf,hz,Result.andThen]
 | some r =>
  obtain ⟨i,v⟩:=r
  rw [hfi] at hf
  simp [Instr.lookup,run_underlying hT,MapKept.run_getObj_map hb,MapKept.run_checkKey (k:=.int .i64 k) hk rfl,MapKept.run_findKey hk hf,Result.andThen]
theorem run_update_int (v:Value):∃ o,(Instr.mapUpdate T (.map (some b)) (.int .i64 k) v).run P w=.ok () (setO w b o)∧IMap (setO w b o) b (putI l k v):=by
 obtain ⟨es,cl,hb,he⟩:=h
 have hf:=findNow_int k es.toList l 0 he
 unfold putI
 cases hfi:findI k l 0 with
 | none =>
  rw [hfi] at hf
  refine ⟨.map (es.push ⟨.int .i64 k,v,cl⟩) (cl+1),?_,es.push ⟨.int .i64 k,v,cl⟩,cl+1,setO_at hb,?_⟩
  ·simp [Instr.mapUpdate,run_underlying hT,MapKept.run_getObj_map hb,MapKept.run_checkKey (k:=.int .i64 k) hk rfl,MapKept.run_findKey hk hf,MapKept.run_setObj_map _ hb,Result.andThen,setO]
  ·simp [he]
 | some r =>
  obtain ⟨i,u⟩:=r
  rw [hfi] at hf
  obtain ⟨j,hj,hl⟩:=findI_spec k l 0 _ hfi
  have hj:i=j:=by simpa using hj
  subst hj
  have hm:=congrArg (fun x=>x[i]?) he
  simp only [List.getElem?_map,hl,Option.map_some] at hm
  cases hei:es[i]? with
  | none=>simp [hei] at hm
  | some e =>
   have hke:e.key=.int .i64 k:=by simp [hei] at hm; exact hm.1
   refine ⟨.map (es.modify i fun e=>{ e with key:=.int .i64 k,val:=v }) cl,?_,_,cl,setO_at hb,?_⟩
   ·simp [Instr.mapUpdate,run_underlying hT,MapKept.run_getObj_map hb,MapKept.run_checkKey (k:=.int .i64 k) hk rfl,MapKept.run_findKey hk hf,hei,hke,MapKept.run_keyThatStays (d:=.int .i64) (k:=.int .i64 k) rfl,MapKept.run_setObj_map _ hb,Result.andThen,setO]
   ·apply List.ext_getElem?
    intro q
    have hq:=congrArg (fun x=>x[q]?) he
    simp only [List.getElem?_map,Array.getElem?_toList] at hq
    simp only [List.getElem?_map,Array.toList_modify,List.getElem?_modify,Array.getElem?_toList,List.getElem?_set]
    by_cases hqi:i=q
    ·subst hqi
     have hlt:i<l.length:=(List.getElem?_eq_some_iff.1 hl).1
     simp [hei,hlt]
    ·simp [hqi,hq]
theorem run_delete_int {ty:TypeId}:∃ o,(Builtin.delete_ #[T,kt] ty #[.map (some b),.int .i64 k]).run P w=.ok (.tuple #[]) (setO w b o)∧IMap (setO w b o) b (delI l k):=by
 obtain ⟨es,cl,hb,he⟩:=h
 have hf:=findNow_int k es.toList l 0 he
 unfold delI
 cases hfi:findI k l 0 with
 | none =>
  rw [hfi] at hf
  refine ⟨.map es cl,?_,es,cl,setO_at hb,he⟩
  simp [Builtin.delete_,run_underlying hT,MapKept.run_getObj_map hb,MapKept.run_checkKey (k:=.int .i64 k) hk rfl,MapKept.run_findKey hk hf,MapKept.run_setObj_map _ hb,Result.andThen,setO]
 | some r =>
  obtain ⟨i,u⟩:=r
  rw [hfi] at hf
  refine ⟨.map (es.eraseIdxIfInBounds i) cl,?_,_,cl,setO_at hb,?_⟩
  ·simp [Builtin.delete_,run_underlying hT,MapKept.run_getObj_map hb,MapKept.run_checkKey (k:=.int .i64 k) hk rfl,MapKept.run_findKey hk hf,MapKept.run_setObj_map _ hb,Result.andThen,setO]
  ·have e1:(es.eraseIdxIfInBounds i).toList=es.toList.eraseIdx i:=by
    unfold Array.eraseIdxIfInBounds
    split
    ·simp
    ·rename_i hn
     rw [List.eraseIdx_of_length_le (by simpa using hn)]
   have em:∀ {α β:Type} (f:α→β) (x:List α) (j:Nat),(x.eraseIdx j).map f=(x.map f).eraseIdx j:=fun f x=>by
    induction x with
    | nil=>intro j; rfl
    | cons a x ih =>
     intro j
     cases j with
     | zero=>rfl
     | succ j=>simp [ih]
   rw [e1,em,he,← em]
end
end Go.Proofs.YtbkmdmmgalmmaaaGreatDoor
