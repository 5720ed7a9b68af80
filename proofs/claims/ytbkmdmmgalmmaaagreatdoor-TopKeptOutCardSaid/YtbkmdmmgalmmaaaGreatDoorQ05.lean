/-
  Gp, GNew, GFence
-/
import Derived.Test.YtbkmdmmgalmmaaaGreatDoorQ04
namespace Go.Proofs.YtbkmdmmgalmmaaaGreatDoor
open Go.RowKit Go.Sort
def putL (l:List Value) (o:Nat):List Value→List Value
 | []=>l
 | v :: r=>putL (l.set o v) (o+1) r
theorem set_app_r {a b:List Value} {i:Nat} (h:a.length≤i) (v:Value):(a ++ b).set i v=a ++ b.set (i - a.length) v:=by
 rw [List.set_append,if_neg (by omega)]
theorem set_app_l {a b:List Value} {i:Nat} (h:i<a.length) (v:Value):(a ++ b).set i v=a.set i v ++ b:=by
 rw [List.set_append,if_pos h]
theorem putL_length:∀ (vs l:List Value) (o:Nat),(putL l o vs).length=l.length
 | [],_,_=>rfl
 | v :: r,l,o=>by unfold putL; rw [putL_length r]; simp
theorem putL_right:∀ (vs a b:List Value) (o:Nat),putL (a ++ b) (a.length+o) vs=a ++ putL b o vs
 | [],_,_,_=>rfl
 | v :: r,a,b,o=>by
  unfold putL
  rw [set_app_r (by omega),Nat.add_sub_cancel_left]
  exact putL_right r a (b.set o v) (o+1)
theorem putL_left:∀ (vs a b:List Value) (o:Nat),o+vs.length≤a.length→putL (a ++ b) o vs=putL a o vs ++ b
 | [],_,_,_,_=>rfl
 | v :: r,a,b,o,h=>by
  simp only [List.length_cons] at h
  unfold putL
  rw [set_app_l (by omega)]
  exact putL_left r (a.set o v) b (o+1) (by simp; omega)
theorem putL_full:∀ (vs p a:List Value),a.length=vs.length→putL (p ++ a) p.length vs=p ++ vs
 | [],p,a,h=>by obtain rfl:=List.length_eq_zero_iff.1 (h.trans rfl); rfl
 | v :: r,p,[],h=>by simp at h
 | v :: r,p,x :: a,h=>by
  unfold putL
  rw [set_app_r (by omega),Nat.sub_self,List.set_cons_zero]
  have:=putL_full r (p ++ [v]) a (by simpa using h)
  simpa using this
theorem putL_all {vs a:List Value} (h:a.length=vs.length):putL a 0 vs=vs:=by simpa using putL_full vs [] a h
theorem block_setCells {N:Nat} {T:TypeId}:∀ (vs:List Value) (o:Nat) (w:World) (cs:Array Value),w.heap[N]?=some (.cells cs T (0,0))→(w.setCells N o vs).heap[N]?=some (.cells (putL cs.toList o vs).toArray T (0,0))
 | [],_,_,_,h=>h
 | v :: r,o,w,cs,h=>by
  have:=block_setCells r (o+1) (w.setCell ⟨N,o,none⟩ v) _ (block_setCell h v)
  unfold World.setCells putL
  simpa using this
theorem Keeps.setCells {S:Nat→Prop} {N:Nat} (hN:S N):∀ (vs:List Value) (o:Nat) (a w:World),Keeps S a w→Keeps S a (w.setCells N o vs)
 | [],_,_,_,h=>h
 | v :: r,o,a,w,h=>by
  unfold World.setCells
  exact Keeps.setCells hN r (o+1) a _ (h.setCell hN v)
structure Gp where
 r:List Rp
 u:List Bool
structure Gp.ok (g:Gp):Prop where
 r3:g.r.length=3
 u3:g.u.length=3
 c8:∀ r∈g.r,r.cells.length=8
def flatR (l:List Rp):List Value:=l.flatMap (fun r=>r.arr.toList)
def Gp.arr (g:Gp):Array Value:=(flatR g.r ++ g.u.map Value.bool).toArray
theorem flatR_length:∀ (l:List Rp),(∀ r∈l,r.cells.length=8)→(flatR l).length=l.length*25
 | [],_=>rfl
 | r :: l,h=>by
  have ih:=flatR_length l (fun q hq=>h q (by simp [hq]))
  have hz:=Rp.size (h r (by simp))
  simp only [flatR,List.flatMap_cons,List.length_append,Array.length_toList,List.length_cons] at ih ⊢
  omega
theorem flatR_at:∀ (l:List Rp),(∀ r∈l,r.cells.length=8)→∀ (i:Nat) (h:i<l.length) (j:Nat),j<25→(flatR l)[i*25+j]?=l[i].arr[j]?
 | r :: l,h8,0,_,j,hj=>by
  have hz:=Rp.size (h8 r (by simp))
  simp only [flatR,List.flatMap_cons]
  rw [List.getElem?_append_left (by simp; omega)]
  simp
 | r :: l,h8,i+1,h,j,hj=>by
  have hz:=Rp.size (h8 r (by simp))
  have:=flatR_at l (fun q hq=>h8 q (by simp [hq])) i (by simpa using h) j hj
  simp only [flatR,List.flatMap_cons] at this ⊢
  rw [List.getElem?_append_right (by simp; omega)]
  simp only [Array.length_toList,hz]
  rw [show (i+1)*25+j - 25=i*25+j from by omega]
  simpa using this
theorem flatR_put:∀ (l:List Rp),(∀ r∈l,r.cells.length=8)→∀ (i:Nat) (h:i<l.length) (o:Nat) (vs:List Value) (r':Rp),o+vs.length≤25→putL l[i].arr.toList o vs=r'.arr.toList →
  putL (flatR l) (i*25+o) vs=flatR (l.set i r')
 | x :: l,h8,0,_,o,vs,r',ho,hp=>by
  have hz:=Rp.size (h8 x (by simp))
  simp only [flatR,List.flatMap_cons,List.set_cons_zero,Nat.zero_mul,Nat.zero_add]
  rw [putL_left _ _ _ _ (by simp; omega)]
  exact congrArg (· ++ _) hp
 | x :: l,h8,i+1,h,o,vs,r',ho,hp=>by
  have hz:=Rp.size (h8 x (by simp))
  have ih:=flatR_put l (fun q hq=>h8 q (by simp [hq])) i (by simpa using h) o vs r' ho hp
  simp only [flatR,List.flatMap_cons,List.set_cons_succ] at ih ⊢
  rw [show (i+1)*25+o=x.arr.toList.length+(i*25+o) from by simp; omega,putL_right,ih]
theorem flatR_one (l:List Rp):∀ v∈flatR l,v.oneCell'=true:=by
 intro v hv
 simp only [flatR,List.mem_flatMap] at hv
 obtain ⟨r,_,h⟩:=hv
 exact (Array.all_eq_true_iff_forall_mem.1 r.one) v (by simpa using h)
theorem Gp.one (g:Gp):g.arr.all (·.oneCell')=true:=by
 unfold Gp.arr
 apply all_oneCell_toArray
 intro v hv
 rcases List.mem_append.1 hv with h | h
 ·exact flatR_one _ v h
 ·simp only [List.mem_map] at h
  obtain ⟨b,_,rfl⟩:=h; rfl
theorem Gp.size {g:Gp} (h:g.ok):g.arr.size=78:=by
 unfold Gp.arr
 simp [flatR_length g.r h.c8,h.r3,h.u3]
theorem Gp.atR {g:Gp} (h:g.ok) {i:Nat} (hi:i<g.r.length) {j:Nat} (hj:j<25):g.arr[i*25+j]?=g.r[i].arr[j]?:=by
 unfold Gp.arr
 have hl:=flatR_length g.r h.c8
 rw [List.getElem?_toArray,List.getElem?_append_left (by have:=h.r3; omega)]
 exact flatR_at g.r h.c8 i hi j hj
theorem Gp.atU {g:Gp} (h:g.ok) {i:Nat} (hi:i<g.u.length):g.arr[75+i]?=some (.bool g.u[i]):=by
 unfold Gp.arr
 have hl:=flatR_length g.r h.c8
 have h3:=h.r3
 rw [List.getElem?_toArray,List.getElem?_append_right (by omega),show 75+i - (flatR g.r).length=i from by omega]
 simp [hi]
def Gp.setR (g:Gp) (i:Nat) (r:Rp):Gp:=⟨g.r.set i r,g.u⟩
def Gp.setU (g:Gp) (i:Nat) (b:Bool):Gp:=⟨g.r,g.u.set i b⟩
theorem Gp.ok.setR {g:Gp} (h:g.ok) (i:Nat) {r:Rp} (hr:r.cells.length=8):(g.setR i r).ok :=
 ⟨by simp [Gp.setR,h.r3],h.u3,fun q hq=>by
  rcases List.mem_or_eq_of_mem_set hq with h1 | h1
  ·exact h.c8 q h1
  ·rw [h1]; exact hr⟩
theorem Gp.ok.setU {g:Gp} (h:g.ok) (i:Nat) (b:Bool):(g.setU i b).ok:=⟨h.r3,by simp [Gp.setU,h.u3],h.c8⟩
theorem Gp.putR {g:Gp} (h:g.ok) {i:Nat} (hi:i<g.r.length) (o:Nat) (vs:List Value) (r':Rp) (ho:o+vs.length≤25) (hp:putL g.r[i].arr.toList o vs=r'.arr.toList) :
  (putL g.arr.toList (i*25+o) vs).toArray=(g.setR i r').arr:=by
 unfold Gp.arr Gp.setR
 have hl:=flatR_length g.r h.c8
 congr 1
 rw [putL_left _ _ _ _ (by have:=h.r3; omega),flatR_put g.r h.c8 i hi o vs r' ho hp]
theorem Gp.putU {g:Gp} (h:g.ok) {i:Nat} (b:Bool):g.arr.setIfInBounds (75+i) (.bool b)=(g.setU i b).arr:=by
 unfold Gp.arr Gp.setU
 have hl:=flatR_length g.r h.c8
 have h3:=h.r3
 apply Array.toList_inj.1
 simp only [Array.toList_setIfInBounds]
 rw [set_app_r (by omega),show 75+i - (flatR g.r).length=i from by omega]
 simp [List.map_set]
theorem gp_row:Tryz.prog.underlying 45=some (.struct (Tryz.prog.fieldsOf 45))∧(Tryz.prog.info? 45).map (·.size)=some 78:=by constructor <;> kernel_rfl
section
variable {w:World} {N i:Nat} {g:Gp} {T:TypeId}
theorem gp_floor (h:w.heap[N]?=some (.cells g.arr T (0,0))) (hg:g.ok) (hi:i<g.r.length):w.cell? ⟨N,i*25,none⟩=some (.int .i64 g.r[i].floor)∧w.frozen? ⟨N,i*25,none⟩=false:=by
 have:=Gp.atR hg hi (j:=0) (by omega)
 rw [Nat.add_zero,Rp.at0] at this
 simp [World.cell?,World.frozen?,h,this]
theorem gp_up (h:w.heap[N]?=some (.cells g.arr T (0,0))) (hg:g.ok) (hi:i<g.u.length):w.cell? ⟨N,75+i,none⟩=some (.bool g.u[i])∧w.frozen? ⟨N,75+i,none⟩=false:=by
 have:=Gp.atU hg hi
 simp [World.cell?,World.frozen?,h,this]
theorem gp_range (h:w.heap[N]?=some (.cells g.arr T (0,0))) (hg:g.ok) (hi:i<g.r.length):w.rangeAt N (i*25) g.r[i].arr.toList∧w.there N (i*25) 25:=by
 have h8:=Rp.size (hg.c8 _ (List.getElem_mem hi))
 have h1:w.rangeAt N (i*25) g.r[i].arr.toList:=fun j v hv=>by
  have hj:j<25:=by
   have:=(List.getElem?_eq_some_iff.1 hv).1
   simp at this; omega
  rw [cell_of_row w N (i*25+j) g.arr T (0,0) h,Gp.atR hg hi hj]
  simpa using hv
 refine ⟨h1,fun j hj=>⟨h1.isSome j (by simp; omega),?_⟩⟩
 simp [World.frozen?,h]
theorem gp_cell {k:Nat} (h:w.heap[N]?=some (.cells g.arr T (0,0))) (hg:g.ok) (hi:i<g.r.length) (hk:k<g.r[i].cells.length) :
  (w.cell? ⟨N,i*25+(1+k*3),none⟩=some (.int .i64 g.r[i].cells[k].e)∧w.cell? ⟨N,i*25+(1+k*3+1),none⟩=some (.int .i64 g.r[i].cells[k].n)∧w.cell? ⟨N,i*25+(1+k*3+2),none⟩=some (.string g.r[i].cells[k].d)) ∧
  w.frozen? ⟨N,i*25+(1+k*3),none⟩=false∧w.frozen? ⟨N,i*25+(1+k*3+1),none⟩=false∧w.frozen? ⟨N,i*25+(1+k*3+2),none⟩=false:=by
 have h8:=hg.c8 _ (List.getElem_mem hi)
 obtain ⟨h1,h2,h3⟩:=g.r[i].at hk
 have e0:=Gp.atR hg hi (j:=1+k*3) (by omega)
 have e1:=Gp.atR hg hi (j:=1+k*3+1) (by omega)
 have e2:=Gp.atR hg hi (j:=1+k*3+2) (by omega)
 rw [h1] at e0
 rw [h2] at e1
 rw [h3] at e2
 simp [World.cell?,World.frozen?,h,e0,e1,e2]
theorem gp_setR (h:w.heap[N]?=some (.cells g.arr T (0,0))) (hg:g.ok) (hi:i<g.r.length) {r:Rp} (hr:r.cells.length=8):(w.setCells N (i*25) r.arr.toList).heap[N]?=some (.cells (g.setR i r).arr T (0,0)):=by
 have hz:=Rp.size hr
 have hy:=Rp.size (hg.c8 _ (List.getElem_mem hi))
 rw [block_setCells _ _ _ _ h,← Gp.putR hg hi 0 r.arr.toList r (by simp; omega) (putL_all (by simp; omega)),Nat.add_zero]
theorem gp_setC {k:Nat} (h:w.heap[N]?=some (.cells g.arr T (0,0))) (hg:g.ok) (hi:i<g.r.length) (hk:k<g.r[i].cells.length) (c:Cel) :
  (((w.setCell ⟨N,i*25+(1+k*3),none⟩ (.int .i64 c.e)).setCell ⟨N,i*25+(1+k*3+1),none⟩ (.int .i64 c.n)).setCell ⟨N,i*25+(1+k*3+2),none⟩ (.string c.d)).heap[N]?=some (.cells (g.setR i ⟨g.r[i].floor,g.r[i].cells.set k c⟩).arr T (0,0)):=by
 have h8:=hg.c8 _ (List.getElem_mem hi)
 have e:=Gp.putR hg hi (1+k*3) c.vs ⟨g.r[i].floor,g.r[i].cells.set k c⟩ (by simp [Cel.vs]; omega) (by
  have:=congrArg Array.toList (Rp.set g.r[i] c hk)
  simpa [putL,Cel.vs,Nat.add_assoc] using this)
 rw [← e]
 have:=block_setCells c.vs (i*25+(1+k*3)) w _ h
 simpa [World.setCells,Cel.vs,Nat.add_assoc] using this
theorem gp_cellA {k:Nat} (h:w.heap[N]?=some (.cells g.arr T (0,0))) (hg:g.ok) (hi:i<g.r.length) (hk:k<g.r[i].cells.length) :
  (w.cell? ⟨N,i*25+1+k*3,none⟩=some (.int .i64 g.r[i].cells[k].e)∧w.cell? ⟨N,i*25+1+k*3+1,none⟩=some (.int .i64 g.r[i].cells[k].n)∧w.cell? ⟨N,i*25+1+k*3+2,none⟩=some (.string g.r[i].cells[k].d)) ∧
  w.frozen? ⟨N,i*25+1+k*3,none⟩=false∧w.frozen? ⟨N,i*25+1+k*3+1,none⟩=false∧w.frozen? ⟨N,i*25+1+k*3+2,none⟩=false:=by
 simpa only [Nat.add_assoc] using gp_cell h hg hi hk
theorem gp_setCA {k:Nat} (h:w.heap[N]?=some (.cells g.arr T (0,0))) (hg:g.ok) (hi:i<g.r.length) (hk:k<g.r[i].cells.length) (c:Cel) :
  (((w.setCell ⟨N,i*25+1+k*3,none⟩ (.int .i64 c.e)).setCell ⟨N,i*25+1+k*3+1,none⟩ (.int .i64 c.n)).setCell ⟨N,i*25+1+k*3+2,none⟩ (.string c.d)).heap[N]?=some (.cells (g.setR i ⟨g.r[i].floor,g.r[i].cells.set k c⟩).arr T (0,0)):=by
 simpa only [Nat.add_assoc] using gp_setC h hg hi hk c
theorem gp_setU (h:w.heap[N]?=some (.cells g.arr T (0,0))) (hg:g.ok) (b:Bool):(w.setCell ⟨N,75+i,none⟩ (.bool b)).heap[N]?=some (.cells (g.setU i b).arr T (0,0)):=by
 rw [block_setCell h,Gp.putU hg]
end
def Gp.isM (g:Gp) (epoch:Int) (i:Nat):Bool:=g.u.getD i false && decide ((g.r.getD i Rp.zero).floor=epoch)
def Gp.memTo (g:Gp) (epoch:Int) (n:Nat):List Int:=((List.range n).filter (g.isM epoch)).map Int.ofNat
def Gp.mem (g:Gp) (epoch:Int):List Int:=g.memTo epoch 3
theorem Gp.mem_succ (g:Gp) (epoch:Int) (n:Nat):g.memTo epoch (n+1)=g.memTo epoch n ++ (if g.isM epoch n then [(n:Int)] else []):=by
 unfold Gp.memTo
 rw [List.range_succ,List.filter_append,List.map_append]
 congr 1
 cases h:g.isM epoch n <;> simp [h]
theorem Gp.mem_len (g:Gp) (epoch:Int) (n:Nat):(g.memTo epoch n).length≤n:=by
 unfold Gp.memTo
 rw [List.length_map]
 exact Nat.le_trans (List.length_filter_le _ _) (by simp)
theorem Gp.mem_lt {g:Gp} {epoch:Int} {n:Nat} {x:Int} (h:x∈g.memTo epoch n):∃ i:Nat,x=i∧i<n∧g.isM epoch i=true:=by
 unfold Gp.memTo at h
 simp only [List.mem_map,List.mem_filter,List.mem_range] at h
 obtain ⟨i,⟨h1,h2⟩,rfl⟩:=h
 exact ⟨i,rfl,h1,h2⟩
section
variable {P:Program} {ops:Array Oper} {rest:List Oper} {op:Oper} {a:Act} {w:World} {Q:Exit→Act→World→Prop}
theorem ld_mid1 (hgd:op.guard=none) (ty:TypeId) (x:Operand) (ho:op.op=.load ty x)
  (h:∃ (b o:Nat) (cs:Array Value) (d:TypeDesc),a.eval x=.pointer (some ⟨b,o,none⟩)∧w.rangeAt b o cs.toList∧P.underlying ty=some d∧d.isRow=true∧(P.info? ty).map (·.size)=some cs.size∧wpList P ops Q rest (a.put op.dst (.agg cs)) w):wpList P ops Q (op :: rest) a w:=by
 obtain ⟨b,o,cs,d,h1,h2,h3,h4,h5,h6⟩:=h
 exact wpList_load_midA hgd ty x ho b o h1 cs d h2 h3 h4 h5 h6
theorem st_mid1 (hgd:op.guard=none) (ty:TypeId) (x y:Operand) (ho:op.op=.store ty x y)
  (h:∃ (b o:Nat) (cs:Array Value),a.eval x=.pointer (some ⟨b,o,none⟩)∧a.eval y=.agg cs∧w.there b o cs.size∧(P.info? ty).map (·.size)=some cs.size∧cs.all (·.oneCell')=true∧wpList P ops Q rest (a.put op.dst undef) (w.setCells b o cs.toList)):wpList P ops Q (op :: rest) a w:=by
 obtain ⟨b,o,cs,h1,h2,h3,h4,h5,h6⟩:=h
 exact wpList_store_mid hgd ty x y ho b o cs h1 h2 h3 h4 h5 h6
theorem ld_row1 (hgd:op.guard=none) (ty:TypeId) (x:Operand) (ho:op.op=.load ty x)
  (h:∃ (g:Nat) (t:TypeId) (cs:Array Value) (d:TypeDesc),a.eval x=.pointer (some ⟨g,0,none⟩)∧w.heap[g]?=some (.cells cs t (0,0))∧P.underlying ty=some d∧d.isRow=true∧(P.info? ty).map (·.size)=some cs.size∧wpList P ops Q rest (a.put op.dst (.agg cs)) w):wpList P ops Q (op :: rest) a w:=by
 obtain ⟨g,t,cs,d,h1,h2,h3,h4,h5,h6⟩:=h
 exact wpList_load_row hgd ty x ho g h1 t cs (0,0) d h2 h3 (by cases d <;> simp_all) h5 h6
theorem st_row1 (hgd:op.guard=none) (ty:TypeId) (x y:Operand) (ho:op.op=.store ty x y)
  (h:∃ (g:Nat) (t:TypeId) (cs old:Array Value),a.eval x=.pointer (some ⟨g,0,none⟩)∧a.eval y=.agg cs∧w.heap[g]?=some (.cells old t (0,0))∧(P.info? ty).map (·.size)=some cs.size∧old.size=cs.size∧cs.all (·.oneCell')=true∧wpList P ops Q rest (a.put op.dst undef) (w.setRow g cs)):wpList P ops Q (op :: rest) a w:=by
 obtain ⟨g,t,cs,old,h1,h2,h3,h4,h5,h6,h7⟩:=h
 exact wpList_store_row hgd ty x y ho g cs h1 h2 t old h3 h4 h5 h6 h7
end
end Go.Proofs.YtbkmdmmgalmmaaaGreatDoor

namespace Go.Proofs.YtbkmdmmgalmmaaaGreatDoor
open Go.RowKit Go.Sort
def Gp.zero:Gp:=⟨List.replicate 3 Rp.zero,List.replicate 3 false⟩
def Gp.start:Gp:=⟨List.replicate 3 Rp.start,List.replicate 3 true⟩
def Gp.startTo (k:Nat):Gp:=⟨List.replicate k Rp.start ++ List.replicate (3 - k) Rp.zero,List.replicate k true ++ List.replicate (3 - k) false⟩
theorem startTo_ok (k:Nat) (hk:k≤3):(Gp.startTo k).ok:=by
 refine ⟨by simp [Gp.startTo]; omega,by simp [Gp.startTo]; omega,fun r hr=>?_⟩
 simp only [Gp.startTo,List.mem_append,List.mem_replicate] at hr
 rcases hr with ⟨-,rfl⟩ | ⟨-,rfl⟩ <;> rfl
theorem startTo_succ (k:Nat) (hk:k<3):((Gp.startTo k).setR k Rp.start).setU k true=Gp.startTo (k+1):=by
 rcases (by omega:k=0∨k=1∨k=2) with rfl | rfl | rfl <;> rfl
theorem gp_zero_arr:Tryz.zeroCells45=Gp.zero.arr:=by kernel_rfl
set_option maxRecDepth 100000 in
set_option maxHeartbeats 200000 in
theorem gnew_any (w:World):Calls Tryz.prog 46 #[] w fun e w'=>e=.returned (.agg Gp.start.arr)∧Below w.heap.size w w':=by
 go_enter Tryz.func46,Tryz.ntmps46
 go_upto_region 2 with fail
 obtain ⟨w1,hw1⟩:∃ w1,w1=(w.alloc (.cells Gp.zero.arr 45)).alloc (.cells Gp.zero.arr 45):=⟨_,rfl⟩
 rw [← gp_zero_arr] at hw1
 rw [← hw1]
 rw [gp_zero_arr] at hw1
 have HB:=Lib.hid (show Below w.heap.size w w1 from hw1▸(bal w _).alloc (by simp) _)
 have HO:=Lib.hid (show w1.heap[w.heap.size]?=some (.cells Gp.zero.arr 45 (0,0)) from hw1▸heap_alloc2_old w _ _)
 have HG:=Lib.hid (show w1.heap[w.heap.size+1]?=some (.cells Gp.zero.arr 45 (0,0)) from hw1▸heap_alloc2_new w _ _)
 clear hw1
 go_wp2
 go_loopw [3] (fun i wr=>∃ k:Nat,k≤3∧i=.int .i64 k∧wr.heap[w.heap.size+1]?=some (.cells (Gp.startTo k).arr 45 (0,0))∧wr.heap[w.heap.size]?=some (.cells Gp.zero.arr 45 (0,0))∧Below w.heap.size w wr) (fun i _=>3 - (intOf i).toNat)
 case atStart=>exact ⟨0,by omega,rfl,HG.out,HO.out,HB.out⟩
 case round =>
  obtain ⟨k,hk,rfl,hG,hO,hB⟩:=hrel
  by_cases hk3:k<3
  ·have ok:=startTo_ok k hk
   have hkr:k<(Gp.startTo k).r.length:=by rw [ok.r3]; exact hk3
   have HX:=Lib.hid hG
   have HY:=Lib.hid hO
   have HZ:=Lib.hid hB
   have OK:=Lib.hid ok
   have HKR:=Lib.hid hkr
   clear hG hO hB ok hkr HO HG HB
   go_wp2_with fail
   refine (new_any _).mono ?_
   rintro e w3 ⟨rfl,b3⟩
   obtain ⟨S,hS⟩:∃ S,Rp.start=S:=⟨_,rfl⟩
   rw [hS]
   have HS:=Lib.hid (show ((Gp.startTo k).setR k S).setU k true=Gp.startTo (k+1) from hS▸startTo_succ k hk3)
   have S8:S.cells.length=8:=by rw [← hS]; rfl
   have HX3:=Lib.hid ((b3.block _ (Array.getElem?_eq_some_iff.1 HX.out).1).trans HX.out)
   have HY3:=Lib.hid ((b3.block _ (Array.getElem?_eq_some_iff.1 HY.out).1).trans HY.out)
   have HZ3:=Lib.hid (HZ.out.trans (b3.mono HZ.out.size))
   clear HX HY HZ b3 hS
   have Z3:=Lib.hid (Rp.size S8)
   have TH:=Lib.hid (show w3.there (w.heap.size+1) (k*25) S.arr.size from by rw [Z3.out]; exact (gp_range HX3.out OK.out HKR.out).2)
   have W3:=Lib.hid (gp_setR HX3.out OK.out HKR.out S8)
   have OK3:=Lib.hid (OK.out.setR k S8)
   clear S8
   obtain ⟨u0,u1⟩:=gp_up W3.out OK3.out (i:=k) (by rw [OK3.out.u3]; exact hk3)
   have W4:=Lib.hid (gp_setU W3.out OK3.out (i:=k) true)
   have K4:=Lib.hid ((Keeps.setCells (S:=(·=w.heap.size+1)) rfl S.arr.toList (k*25) w3 w3 (Keeps.refl _ _)).setCell (p:=⟨w.heap.size+1,75+k,none⟩) rfl (.bool true))
   go_wp2_with ((with_reducible refine st_mid1 rfl 41 _ _ rfl ?_); refine ⟨w.heap.size+1,k*25,S.arr,rfl,rfl,TH.out,by rw [rp_row.2.1,Z3.out],Rp.one _,?_⟩)
   go_roundw
   case rel=>exact ⟨k+1,by omega,by go_num,by rw [← HS.out]; exact W4.out,(K4.out.block _ (by omega) (Array.getElem?_eq_some_iff.1 HY3.out).1).trans HY3.out,HZ3.out.trans (K4.out.below HZ3.out.size (fun m hm=>by omega))⟩
   case measure=>simp [intOf]; omega
  ·obtain rfl:k=3:=by omega
   obtain ⟨G,hGS⟩:∃ G,Gp.startTo 3=G:=⟨_,rfl⟩
   have ok:=startTo_ok 3 (by omega)
   rw [hGS] at hG ok
   have HE:=Lib.hid (show Gp.start=G from hGS▸rfl)
   have Z:=Lib.hid (Gp.size ok)
   have HX:=Lib.hid hG
   have HY:=Lib.hid hO
   have HZ:=Lib.hid hB
   clear hGS ok hG hO hB HO HG HB
   go_wp2_with (first | ((with_reducible refine ld_row1 rfl 45 _ rfl ?_); refine ⟨w.heap.size+1,_,G.arr,_,rfl,HX.out,gp_row.1,rfl,by rw [gp_row.2,Z.out],?_⟩) | ((with_reducible refine st_row1 rfl 45 _ _ rfl ?_); refine ⟨w.heap.size,_,G.arr,_,rfl,rfl,HY.out,by rw [gp_row.2,Z.out],by rw [Z.out]; rfl,Gp.one _,?_⟩))
   refine bodyPost_ret (v:=.agg G.arr) (results_row1 Tryz.results46 _ _ w.heap.size 45 G.arr (0,0) _ rfl (setRow_heap _ _ _ _ _ _ HY.out) gp_row.1 rfl (by rw [gp_row.2,Z.out])) rfl ?_
   exact ⟨by rw [HE.out],HZ.out.trans (((Keeps.refl (·=w.heap.size) wr).setRow rfl _).below HZ.out.size (fun m hm=>by omega))⟩
set_option maxRecDepth 100000 in
set_option maxHeartbeats 2000000 in
theorem members_any (g:Gp) (epoch:Int) (w:World) (hg:g.ok):Calls Tryz.prog 95 #[.agg g.arr,.int .i64 epoch] w fun e w'=>∃ a c,e=.returned (.slice a (g.mem epoch).length c)∧OwnI (w.heap.size+1) w' (.slice a (g.mem epoch).length c) (g.mem epoch)∧Below w.heap.size w w':=by
 have OK:=Lib.hid hg
 clear hg
 go_enter Tryz.func95,Tryz.ntmps95
 go_upto_region 2 with fail
 obtain ⟨w1,hw1⟩:∃ w1,w1=w.alloc (.cells g.arr 45):=⟨_,rfl⟩
 rw [← hw1]
 have HB:=Lib.hid (show Below w.heap.size w w1 from hw1▸bal w _)
 have HG:=Lib.hid (show w1.heap[w.heap.size]?=some (.cells g.arr 45 (0,0)) from hw1▸heap_alloc_new w _)
 clear hw1
 go_wp2
 go_loopw [5,7] (fun v i wr=>∃ k:Nat,k≤3∧i=.int .i64 k∧OwnI (w.heap.size+1) wr v (g.memTo epoch k)∧wr.heap[w.heap.size]?=some (.cells g.arr 45 (0,0))∧Below w.heap.size w wr) (fun _ i _=>3 - (intOf i).toNat)
 case atStart=>exact ⟨0,by omega,rfl,⟨rfl,.inl ⟨rfl,rfl⟩⟩,HG.out,HB.out⟩
 case round =>
  obtain ⟨k,hk,rfl,hO,hG,hB⟩:=hrel
  obtain ⟨L,hL⟩:∃ L,g.memTo epoch k=L:=⟨_,rfl⟩
  rw [hL] at hO
  obtain ⟨av,cv,rfl,-⟩:=hO.shape
  have hLk:L.length≤k:=hL▸g.mem_len epoch k
  obtain ⟨n,hn⟩:∃ n,L.length=n:=⟨_,rfl⟩
  have HLN:=Lib.hid hn
  have HL:=Lib.hid hL
  rw [hn] at hLk hO ⊢
  have HO:=Lib.hid hO
  have HX:=Lib.hid hG
  have HZ:=Lib.hid hB
  clear hO hG hB HG HB hn hL
  by_cases hk3:k<3
  ·have hkr:k<g.r.length:=by rw [OK.out.r3]; exact hk3
   have hku:k<g.u.length:=by rw [OK.out.u3]; exact hk3
   obtain ⟨u0,-⟩:=gp_up HX.out OK.out hku
   obtain ⟨f0,-⟩:=gp_floor HX.out OK.out hkr
   obtain ⟨U,hU⟩:∃ U,g.u[k]=U:=⟨_,rfl⟩
   obtain ⟨F,hF⟩:∃ F,g.r[k].floor=F:=⟨_,rfl⟩
   rw [hU] at u0
   rw [hF] at f0
   have HM:=Lib.hid (show g.isM epoch k=(U && decide (F=epoch)) from by unfold Gp.isM; rw [← hU,← hF]; simp [hku,hkr])
   have HSU:=Lib.hid (g.mem_succ epoch k)
   clear hU hF hkr hku
   cases U
   ·have HE:=Lib.hid (show g.memTo epoch (k+1)=L from by rw [HSU.out,HM.out,HL.out]; simp)
    clear f0
    go_wp2
    go_roundw
    case rel=>exact ⟨k+1,by omega,by go_num,by rw [HE.out]; exact HO.out,HX.out,HZ.out⟩
    case measure=>simp [intOf]; omega
   ·by_cases hF:F=epoch
    ·have eb:(F == epoch)=true:=by simp [hF]
     have HE:=Lib.hid (show g.memTo epoch (k+1)=L ++ [(k:Int)] from by rw [HSU.out,HM.out,HL.out]; simp [hF])
     clear hF
     obtain ⟨i0,hi,hz0,hz1,hz2⟩:=info_parts Tryz.infoInt
     have OW:=Lib.hid (fun o=>show (wr.alloc o).ownsRow (w.heap.size+1) 3 1 (.slice av n cv) n (L.map (Value.int .i64)) from by
      have:=HO.out.below (bal wr o)
      unfold OwnI at this
      rwa [HLN.out] at this)
     go_wp2_with (at_builtin; refine wpList_append_own _ rfl _ _ 54 rfl (w.heap.size+1) 3 i0 (.int .i64 0) 1 8 Tryz.underlying54 hi hz0 hz1 hz2 rfl (by decide) _ _ _ rfl (OW.out _) ⟨wr.heap.size,0,none⟩ 1 1 [.int .i64 k] rfl rfl ?c1 ?c2 ?c3 ?c4 ?c5 ?_)
     case c1 =>
      intro j u hj
      match j,hj with
      | 0,hj=>simp at hj; subst hj; simp [Addr.add]
     case c2=>intro u hu; simp at hu; subst hu; rfl
     case c3=>unfold maxLen; omega
     case c4=>omega
     case c5=>exact Nat.le_trans (Array.getElem?_eq_some_iff.1 HX.out).1 (bal wr _).size
     intro v' w7 hown1 hg1 _
     have HN:=Lib.hid (show OwnI (w.heap.size+1) w7 v' (g.memTo epoch (k+1)) from by rw [HE.out]; simpa [OwnI,HLN.out] using hown1)
     have HX7:=Lib.hid (show w7.heap[w.heap.size]?=some (.cells g.arr 45 (0,0)) from by
      have hlt:=(Array.getElem?_eq_some_iff.1 HX.out).1
      rw [hg1.block w.heap.size (by simp; omega) (fun e=>by have:=HO.out.blk _ e.symm; omega),Below.heap_alloc _ _ _ hlt]
      exact HX.out)
     have HZ7:=Lib.hid ((HZ.out.trans ((bal wr _).mono HZ.out.size)).grown hg1 (Nat.le_trans HZ.out.size (bal wr _).size) (fun m hm=>by have:=HO.out.blk m hm; omega))
     clear hown1 hg1
     go_wp2
     go_roundw
     case rel=>exact ⟨k+1,by omega,by go_num,HN.out,HX7.out,HZ7.out⟩
     case measure=>simp [intOf]; omega
    ·have eb:(F == epoch)=false:=by simp [hF]
     have HE:=Lib.hid (show g.memTo epoch (k+1)=L from by rw [HSU.out,HM.out,HL.out]; simp [hF])
     clear hF
     go_wp2
     go_roundw
     case rel=>exact ⟨k+1,by omega,by go_num,by rw [HE.out]; exact HO.out,HX.out,HZ.out⟩
     case measure=>simp [intOf]; omega
  ·obtain rfl:k=3:=by omega
   have HLL:=Lib.hid (show g.mem epoch=L from HL.out)
   go_wp2
   go_ret
   exact ⟨av,cv,by rw [HLL.out,HLN.out]; rfl,by rw [HLL.out,HLN.out]; exact HO.out,HZ.out⟩
end Go.Proofs.YtbkmdmmgalmmaaaGreatDoor

namespace Go.Proofs.YtbkmdmmgalmmaaaGreatDoor
open Go.RowKit Go.Sort
structure GF (w:World) (h:Gp) (wx:World):Prop where
 below:Below w.heap.size w wx
 ok:h.ok
 hG:wx.heap[w.heap.size]?=some (.cells h.arr 45 (0,0))
 hZ:wx.heap[w.heap.size+1]?=some (.cells Gp.zero.arr 45 (0,0))
theorem GF.lt {w wx:World} {h:Gp} (f:GF w h wx):w.heap.size+1<wx.heap.size:=(Array.getElem?_eq_some_iff.1 f.hZ).1
theorem GF.over {w wx w':World} {h:Gp} (f:GF w h wx) (b:Below wx.heap.size wx w'):GF w h w' :=
 ⟨f.below.trans (b.mono f.below.size),f.ok,(b.block _ (by have:=f.lt; omega)).trans f.hG,(b.block _ f.lt).trans f.hZ⟩
theorem GF.setR {w wx:World} {h:Gp} (f:GF w h wx) {i:Nat} (hi:i<3) {r:Rp} (hr:r.cells.length=8):GF w (h.setR i r) (wx.setCells w.heap.size (i*25) r.arr.toList):=by
 have kp:=Keeps.setCells (S:=(·=w.heap.size)) rfl r.arr.toList (i*25) wx wx (Keeps.refl _ _)
 exact ⟨f.below.trans (kp.below f.below.size (fun m hm=>by omega)),f.ok.setR i hr,gp_setR f.hG f.ok (by rw [f.ok.r3]; exact hi) hr,(kp.block _ (by omega) f.lt).trans f.hZ⟩
theorem GF.done {w wx:World} {h:Gp} (f:GF w h wx) (cs:Array Value):Below w.heap.size w (wx.setRow (w.heap.size+1) cs) :=
 f.below.trans (((Keeps.refl (·=w.heap.size+1) wx).setRow rfl _).below f.below.size (fun m hm=>by omega))
def Gp.fenceTo (g:Gp) (epoch:Int):Nat→Gp
 | 0=>g
 | k+1=>if g.u.getD k false then (g.fenceTo epoch k).setR k (((g.fenceTo epoch k).r.getD k Rp.zero).fence epoch) else g.fenceTo epoch k
def Gp.fence (g:Gp) (epoch:Int):Gp:=if 2≤(g.mem (epoch - 1)).length then g.fenceTo epoch 3 else g
theorem Rp.fence_len (r:Rp) (epoch:Int):(r.fence epoch).cells.length=r.cells.length:=by unfold Rp.fence; split <;> rfl
theorem Gp.fenceTo_u (g:Gp) (epoch:Int):∀ k,(g.fenceTo epoch k).u=g.u
 | 0=>rfl
 | k+1=>by
  have ih:=Gp.fenceTo_u g epoch k
  unfold Gp.fenceTo
  split
  ·exact ih
  ·exact ih
theorem Gp.fenceTo_ok {g:Gp} (h:g.ok) (epoch:Int):∀ k,k≤3→(g.fenceTo epoch k).ok
 | 0,_=>h
 | k+1,hk=>by
  have ih:=Gp.fenceTo_ok h epoch k (by omega)
  unfold Gp.fenceTo
  split
  ·refine ih.setR k ?_
   rw [Rp.fence_len]
   have hl:k<(g.fenceTo epoch k).r.length:=by rw [ih.r3]; omega
   simp only [List.getD_eq_getElem?_getD,List.getElem?_eq_getElem hl,Option.getD_some]
   exact ih.c8 _ (List.getElem_mem hl)
  ·exact ih
theorem Gp.fence_ok {g:Gp} (h:g.ok) (epoch:Int):(g.fence epoch).ok:=by
 unfold Gp.fence; split
 ·exact Gp.fenceTo_ok h epoch 3 (by omega)
 ·exact h
set_option maxRecDepth 100000 in
set_option maxHeartbeats 2000000 in
theorem gfence_any (g:Gp) (epoch:Int) (w:World) (hg:g.ok) (he:-4611686018427387904≤epoch∧epoch≤4611686018427387904) :
  Calls Tryz.prog 64 #[.agg g.arr,.int .i64 epoch] w fun e w'=>e=.returned (.tuple #[.agg (g.fence epoch).arr,.bool (decide (2≤((g.fence epoch).mem epoch).length))])∧Below w.heap.size w w':=by
 have OK:=Lib.hid hg
 have Z:=Lib.hid (Gp.size hg)
 have q1:IntKind.i64.wrap (epoch - 1)=epoch - 1:=IntWalk.i64_in _ (by omega)
 clear hg
 go_enter Tryz.func64,Tryz.ntmps64
 go_upto_region 1 with fail
 obtain ⟨w1,hw1⟩:∃ w1,w1=(w.alloc (.cells g.arr 45)).alloc (.cells Gp.zero.arr 45):=⟨_,rfl⟩
 rw [← gp_zero_arr] at hw1
 rw [← hw1]
 rw [gp_zero_arr] at hw1
 have F1:=Lib.hid (show GF w g w1 from hw1▸⟨(bal w _).alloc (by simp) _,OK.out,heap_alloc2_old w _ _,heap_alloc2_new w _ _⟩)
 clear hw1
 go_wp2_with ((with_reducible refine ld_row1 rfl 45 _ rfl ?_); refine ⟨w.heap.size,_,g.arr,_,rfl,F1.out.hG,gp_row.1,rfl,by rw [gp_row.2,Z.out],?_⟩)
 refine (members_any g _ _ OK.out).mono ?_
 rintro e w2 ⟨a2,c2,rfl,-,b2⟩
 have F2:=Lib.hid (F1.out.over b2)
 obtain ⟨m,hm⟩:∃ m,(g.mem (epoch - 1)).length=m:=⟨_,rfl⟩
 rw [hm]
 have HM:=Lib.hid hm
 clear hm b2 F1
 obtain ⟨B,hB⟩:∃ B,decide ((2:Int)≤(m:Int))=B:=⟨_,rfl⟩
 have HB2:=Lib.hid hB
 go_upto_if 12 with fail
 clear hB
 go_cut [12] (fun _ wx=>GF w (g.fence epoch) wx)
 case first =>
  cases B
  ·have HF:=Lib.hid (show g.fence epoch=g from if_neg (by rw [HM.out]; have:=HB2.out; simp at this; omega))
   go_wp2
   go_meet
   rw [HF.out]
   exact F2.out
  ·have HF:=Lib.hid (show g.fence epoch=g.fenceTo epoch 3 from if_pos (by rw [HM.out]; have:=HB2.out; simp at this; omega))
   go_wp2
   go_loopw [6,13] (fun _ i wr=>∃ k:Nat,k≤3∧i=.int .i64 k∧GF w (g.fenceTo epoch k) wr) (fun _ i _=>3 - (intOf i).toNat)
   case atStart=>exact ⟨0,by omega,rfl,F2.out⟩
   case round =>
    obtain ⟨k,hk,rfl,gf⟩:=hrel
    obtain ⟨h,hh⟩:∃ h,g.fenceTo epoch k=h:=⟨_,rfl⟩
    rw [hh] at gf
    have HU:=Lib.hid (show h.u=g.u from hh▸g.fenceTo_u epoch k)
    have HS:=Lib.hid (show g.fenceTo epoch (k+1)=if g.u.getD k false then h.setR k ((h.r.getD k Rp.zero).fence epoch) else h from by rw [← hh]; rfl)
    have GFH:=Lib.hid gf
    have HH:=Lib.hid hh
    clear gf hh F2
    by_cases hk3:k<3
    ·have hkr:k<h.r.length:=by rw [GFH.out.ok.r3]; exact hk3
     have hku:k<h.u.length:=by rw [GFH.out.ok.u3]; exact hk3
     obtain ⟨u0,-⟩:=gp_up GFH.out.hG GFH.out.ok hku
     obtain ⟨U,hU⟩:∃ U,h.u[k]=U:=⟨_,rfl⟩
     rw [hU] at u0
     have HUU:=Lib.hid (show g.u.getD k false=U from by rw [← HU.out,← hU]; simp [hku])
     obtain ⟨R,hR⟩:∃ R,h.r[k]=R:=⟨_,rfl⟩
     have RG:=Lib.hid (show wr.rangeAt w.heap.size (k*25) R.arr.toList from hR▸(gp_range GFH.out.hG GFH.out.ok hkr).1)
     have R8:=Lib.hid (show R.cells.length=8 from hR▸GFH.out.ok.c8 _ (List.getElem_mem hkr))
     have HRR:=Lib.hid (show h.r.getD k Rp.zero=R from by rw [← hR]; simp [hkr])
     clear hR hU hku hkr
     cases U
     ·have HE:=Lib.hid (show g.fenceTo epoch (k+1)=h from by rw [HS.out,HUU.out]; rfl)
      go_wp2
      go_roundw
      case rel=>exact ⟨k+1,by omega,by go_num,by rw [HE.out]; exact GFH.out⟩
      case measure=>simp [intOf]; omega
     ·have HE:=Lib.hid (show g.fenceTo epoch (k+1)=h.setR k (R.fence epoch) from by rw [HS.out,HUU.out,HRR.out]; rfl)
      have ZR:=Lib.hid (Rp.size R8.out)
      go_wp2_with ((with_reducible refine ld_mid1 rfl 41 _ rfl ?_); refine ⟨w.heap.size,k*25,R.arr,_,rfl,RG.out,rp_row.1,rfl,by rw [rp_row.2.1,ZR.out],?_⟩)
      refine (fence_any R epoch _ R8.out he).mono ?_
      rintro e w3 ⟨rfl,b3⟩
      obtain ⟨Y,hY⟩:∃ Y,R.fence epoch=Y:=⟨_,rfl⟩
      have Y8:=Lib.hid (show Y.cells.length=8 from by rw [← hY,Rp.fence_len]; exact R8.out)
      rw [hY] at HE ⊢
      have F3:=Lib.hid (GFH.out.over b3)
      have ZY:=Lib.hid (Rp.size Y8.out)
      have TH:=Lib.hid (show w3.there w.heap.size (k*25) Y.arr.size from by rw [ZY.out]; exact (gp_range F3.out.hG F3.out.ok (by rw [F3.out.ok.r3]; exact hk3)).2)
      have F4:=Lib.hid (F3.out.setR hk3 Y8.out)
      clear hY b3 u0
      go_wp2_with ((with_reducible refine st_mid1 rfl 41 _ _ rfl ?_); refine ⟨w.heap.size,k*25,Y.arr,rfl,rfl,TH.out,by rw [rp_row.2.1,ZY.out],Rp.one _,?_⟩)
      go_roundw
      case rel=>exact ⟨k+1,by omega,by go_num,by rw [HE.out]; exact F4.out⟩
      case measure=>simp [intOf]; omega
    ·obtain rfl:k=3:=by omega
     go_wp2
     go_meet
     rw [HF.out,HH.out]
     exact GFH.out
 case rest =>
  obtain ⟨Y,hY⟩:∃ Y,g.fence epoch=Y:=⟨_,rfl⟩
  rw [hY] at hcut
  have FC:=Lib.hid hcut
  have HY:=Lib.hid hY
  have ZY:=Lib.hid (Gp.size hcut.ok)
  clear hcut F2 hY
  go_wp2_with fail
  obtain ⟨S,hS⟩:∃ S:World→Prop,S=fun w'=>w'.heap[w.heap.size]?=some (.cells Y.arr 45 (0,0)):=⟨_,rfl⟩
  have S1:∀ w',S w'→w'.heap[w.heap.size]?=some (.cells Y.arr 45 (0,0)):=fun w' h=>by rw [hS] at h; exact h
  have S2:∀ w',w'.heap[w.heap.size]?=some (.cells Y.arr 45 (0,0))→S w':=fun w' h=>by rw [hS]; exact h
  clear hS
  refine wp_region_held_drew (S:=S) (by kernel_rfl) (S2 _ FC.out.hG) (fun hHeld=>?_)
  refine wpAnyH_take (i:=0) (oi:=_) (v:=.agg Y.arr) rfl (by kernel_rfl) (by kernel_rfl) (by kernel_rfl) (fun _ _ _ h=>h) (yieldsIf_load_row (by rfl) 45 _ rfl w.heap.size rfl 45 Y.arr (0,0) _ S1 gp_row.1 rfl (by rw [gp_row.2,ZY.out])) hHeld ?_
  simp only [Act.put,List.getElem_toArray,List.getElem_cons_zero,List.setIfInBounds_toArray,List.set_cons_zero,List.set_cons_succ]
  refine wpAnyH_take (i:=1) (oi:=_) (v:=.agg Y.arr) rfl (by kernel_rfl) (by kernel_rfl) (by kernel_rfl) (fun _ _ _ h=>h) (yieldsIf_load_row (by rfl) 45 _ rfl w.heap.size rfl 45 Y.arr (0,0) _ S1 gp_row.1 rfl (by rw [gp_row.2,ZY.out])) hHeld ?_
  simp only [Act.put,List.getElem_toArray,List.getElem_cons_zero,List.getElem_cons_succ,List.setIfInBounds_toArray,List.set_cons_zero,List.set_cons_succ]
  refine wpAnyH_take (i:=2) (oi:=_) (v:=.int .i64 epoch) rfl (by kernel_rfl) (by kernel_rfl) (by kernel_rfl) (fun _ _ _ h=>h) (Or.inl ⟨by rfl,fun w' hSw=>by go_simp⟩) hHeld ?_
  simp only [Act.put,List.getElem_toArray,List.getElem_cons_zero,List.getElem_cons_succ,List.setIfInBounds_toArray,List.set_cons_zero,List.set_cons_succ]
  refine wpAnyH_ready (rs:=[3]) (by kernel_rfl) (by simp) ?_
  have FD:=Lib.hid (show GF w Y wc.drew from FC.out.over (Below.refl _ _).drew)
  clear FC
  refine AllReadyH.cons (o:=_) rfl (fun K hK=>?_) AllReadyH.nil
  ·go_simp
   refine (members_any Y epoch _ FD.out.ok).mono ?_
   rintro e w7 ⟨a7,c7,rfl,-,b7⟩
   have F7:=Lib.hid (FD.out.over b7)
   obtain ⟨n,hn⟩:∃ n,(Y.mem epoch).length=n:=⟨_,rfl⟩
   rw [hn]
   have HN:=Lib.hid hn
   clear hn b7 FD
   refine hK.out _ _ (S2 _ F7.out.hG) (fun hHeld2=>?_)
   clear hK K
   refine wpAnyH_take (i:=4) (oi:=_) (v:=.int .i64 n) rfl (by kernel_rfl) (by kernel_rfl) (by kernel_rfl) (fun _ _ _ h=>h) (Or.inl ⟨by rfl,fun w' hSw=>by go_simp⟩) hHeld2 ?_
   simp only [Act.put,List.getElem_toArray,List.getElem_cons_zero,List.getElem_cons_succ,List.setIfInBounds_toArray,List.set_cons_zero,List.set_cons_succ]
   refine wpAnyH_take (i:=5) (oi:=_) (v:=.bool (decide ((2:Int)≤(n:Int)))) rfl (by kernel_rfl) (by kernel_rfl) (by kernel_rfl) (fun _ _ _ h=>h) (Or.inl ⟨by rfl,fun w' hSw=>by go_simp⟩) hHeld2 ?_
   simp only [Act.put,List.getElem_toArray,List.getElem_cons_zero,List.getElem_cons_succ,List.setIfInBounds_toArray,List.set_cons_zero,List.set_cons_succ]
   refine wpAnyH_ready (rs:=[6]) (by kernel_rfl) (by simp) ?_
   refine AllReadyH.cons (o:=_) rfl (fun K hK=>?_) AllReadyH.nil
   refine step_store_row rfl 45 _ _ rfl (w.heap.size+1) Y.arr rfl rfl 45 Gp.zero.arr F7.out.hZ (by rw [gp_row.2,ZY.out]) (by rw [ZY.out]; rfl) (Gp.one _) ?_
   refine hK.out _ _ (S2 _ ((setRow_other _ _ _ _ (by omega)).trans F7.out.hG)) (fun hHeld3=>?_)
   clear hK K
   simp only [Act.put,List.getElem_toArray,List.getElem_cons_zero,List.getElem_cons_succ]
   refine wpAnyH_ready (rs:=[7]) (by kernel_rfl) (by simp) ?_
   refine AllReadyH.cons (o:=_) rfl (fun K hK=>?_) AllReadyH.nil
   go_simp
   refine hK.out _ _ hHeld3 (fun hHeld4=>?_)
   clear hK K
   refine wpAnyH_done (by kernel_rfl) ?_ _
   go_wp2
   refine bodyPost_ret (v:=.tuple #[.agg Y.arr,.bool (decide ((2:Int)≤(n:Int)))]) (results_row_tmp Tryz.results64 _ _ (w.heap.size+1) 45 Y.arr (0,0) _ _ rfl rfl (setRow_heap _ _ _ _ _ _ F7.out.hZ) gp_row.1 rfl (by rw [gp_row.2,ZY.out])) rfl ?_
   exact ⟨by rw [HY.out,HN.out]; simp; omega,F7.out.done _⟩
end Go.Proofs.YtbkmdmmgalmmaaaGreatDoor
