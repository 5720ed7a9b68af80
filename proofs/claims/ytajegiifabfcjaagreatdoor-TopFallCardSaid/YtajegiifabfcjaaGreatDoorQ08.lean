/-
  Del, DelFunc, Insert, InsMid, InsGrow, Bin
-/
import Derived.Laws.CopyRow
import Derived.Test.YtajegiifabfcjaaGreatDoorQ04
import Derived.Lib.AppendZerosOnto
import Derived.Lib.Overlaps
import Derived.StillTailTactics
import Derived.Deep.AppendLies
import Derived.Laws.Externs
namespace Go.Proofs.YtajegiifabfcjaaGreatDoor
open Go.RowKit
theorem with1_any (x y who:Int) (b o:Nat) (w:World) (hp:w.cell? ⟨b,o,none⟩=some (.int .i64 who)) :
  Calls Tryz.prog 173 #[.agg #[.int .i64 x,.int .i64 y],.pointer (some ⟨b,o,none⟩)] w fun e w'=>e=.returned (.bool (x == who))∧Below w.heap.size w w':=by
 have hb:b<w.heap.size:=block_lt_of_cell hp
 go_enter Tryz.func173,Tryz.ntmps173
 go_wp2
 go_ret
 exact ⟨rfl,bal w _⟩
theorem indexfunc_any (l:List (Int × Int)) (a:Option Addr) (cap:Nat) (who:Int) (b o:Nat) (w:World) (hl:l.length≤maxLen) (hr:Pairs w.heap.size w a l) (hp:w.cell? ⟨b,o,none⟩=some (.int .i64 who)) :
  Calls Tryz.prog 195 #[.slice a l.length cap,.func (.func 173) #[] #[.pointer (some ⟨b,o,none⟩)]] w fun e w'=>e=.returned (.int .i64 (placeOf who (l.map (·.1))))∧Below w.heap.size w w':=by
 unfold maxLen at hl
 have hb:b<w.heap.size:=block_lt_of_cell hp
 go_enter Tryz.func195,Tryz.ntmps195
 go_wp2
 go_loopw [8] (fun i wr=>∃ k:Nat,k≤l.length∧i=.int .i64 k∧(∀ j (_:j<k) (hj:j<l.length),l[j].1≠who)∧Below w.heap.size w wr) (fun i _=>l.length - (intOf i).toNat)
 case atStart=>exact ⟨0,by omega,rfl,fun j h=>absurd h (by omega),Below.refl _ _⟩
 case round =>
  obtain ⟨k,hk,rfl,hK,hbw⟩:=hrel
  have HK:=Lib.hid hK; clear hK
  have hs:=hbw.size
  by_cases hlt:k<l.length
  ·obtain ⟨b',o',rfl,hbs,h1,h2⟩:=hr k hlt
   have c1:=(hbw.cell (p:=⟨b',o'+k*2,none⟩) hbs).trans h1
   have c2:=(hbw.cell (p:=⟨b',o'+k*2+1,none⟩) hbs).trans h2
   have cp:=(hbw.cell (p:=⟨b,o,none⟩) hb).trans hp
   clear hr
   go_wp2_with fail
   refine (with1_any _ _ who b o _ cp).mono ?_
   rintro e w1 ⟨rfl,hb1⟩
   have hb2:=hbw.trans (hb1.mono hs)
   by_cases hv:l[k].1=who
   ·have hvb:(l[k].1 == who)=true:=by simp [hv]
    have hpl:=placeOf_at who (l.map (·.1)) k (by simpa using hlt) (by simpa using hv) (fun j hj=>by simpa using HK.out j hj (by omega))
    have HP:=Lib.hid hpl
    clear hpl hv
    go_wp2
    go_ret
    exact ⟨ret_int HP.out.symm,hb2⟩
   ·have hvb:(l[k].1 == who)=false:=by simp [hv]
    have hn:∀ j (_:j<k+1) (hj:j<l.length),l[j].1≠who:=by
     intro j h1 h2
     by_cases e:j=k
     ·subst e; exact hv
     ·exact HK.out j (by omega) h2
    have HN:=Lib.hid hn
    clear hn hv
    go_wp2
    go_roundw
    case rel=>exact ⟨k+1,by omega,by go_num,HN.out,hb2⟩
    case measure=>simp [intOf]; omega
  ·have hpl:placeOf who (l.map (·.1))=-1:=placeOf_none who _ (fun hm=>by
    obtain ⟨r,hr',e⟩:=List.mem_map.1 hm
    obtain ⟨j,hj,e2⟩:=List.getElem_of_mem hr'
    exact HK.out j (by omega) hj (by rw [e2]; exact e))
   have HP:=Lib.hid hpl
   clear hpl
   go_wp2
   go_ret
   exact ⟨ret_int HP.out.symm,hbw⟩
theorem zeros_reg (n:Nat):(Builtin.zeroCells #[.int .i64 0,.int .i64 0] n).toList=List.replicate (n*2) (Value.int .i64 0):=by
 simp [Builtin.zeroCells]
 apply List.ext_getElem
 ·simp
 ·intro i h1 h2
  simp
  rcases (by omega:i % 2=0∨i % 2=1) with e | e <;> simp [e]
theorem run_clear_reg (w:World) (g o n c:Nat) (ty:TypeId) (cur:Array Value) (hn:0<n) (hg:w.heap[g]?=some (.cells cur 118 (0,0))) (ho:o+n*2≤cur.size) :
  (Builtin.clear_ #[33] ty #[.slice (some ⟨g,o,none⟩) n c]).run Tryz.prog w=.ok (.tuple #[]) (w.setRow g (cur.toList.take o ++ List.replicate (n*2) (Value.int .i64 0) ++ cur.toList.drop (o+n*2)).toArray):=by
 have hv:∀ w,(zeroValue 118).run Tryz.prog w=.ok (.agg #[.int .i64 0,.int .i64 0]) w:=fun w=>by kernel_rfl
 have hst:=run_storeCells_at (P:=Tryz.prog) g o 118 (List.replicate (n*2) (Value.int .i64 0)) 0 cur w hg (by simpa using ho) (fun v hv'=>by rw [List.eq_of_mem_replicate hv']; rfl)
 simp only [Nat.add_zero,List.length_replicate] at hst
 obtain ⟨m,rfl⟩:∃ m,n=m+1:=⟨n - 1,by omega⟩
 have hz:=zeros_reg (m+1)
 simp [Builtin.clear_,run_underlying Tryz.underlying33,hv,Value.cells,hz,hst]
theorem setCell2_heap (w:World) (g i:Nat) (cur:Array Value) (x y:Value) (hg:w.heap[g]?=some (.cells cur 118 (0,0))) :
  ((w.setCell ⟨g,i,none⟩ x).setCell ⟨g,i+1,none⟩ y).heap[g]?=some (.cells ((cur.setIfInBounds i x).setIfInBounds (i+1) y) 118 (0,0)) :=
 heap_setCell_same _ _ _ _ _ _ (heap_setCell_same _ _ _ _ _ _ hg)
theorem below_setRow' {B:Nat} {a w:World} (h:Below B a w) {g:Nat} (hg:B≤g) (cs:Array Value):Below B a (w.setRow g cs) :=
 h.trans ⟨rfl,rfl,rfl,by simp,fun k hk=>by simp only [World.setRow,Array.getElem?_modify]; rw [if_neg (by omega)]⟩
set_option maxHeartbeats 1000000 in
theorem deletefunc_any (l:List (Int × Int)) (v:Value) (B:Nat) (who:Int) (b o:Nat) (w:World) (hl:l.length≤maxLen) (hr:OwnP B w v l) (hp:w.cell? ⟨b,o,none⟩=some (.int .i64 who)) (hbB:b<B) (hBw:B≤w.heap.size) :
  Calls Tryz.prog 171 #[v,.func (.func 173) #[] #[.pointer (some ⟨b,o,none⟩)]] w fun e w'=>∃ v',e=.returned v'∧OwnP B w' v' (without who l)∧Below B w w':=by
 have hb:b<w.heap.size:=block_lt_of_cell hp
 have hr0:=hr
 obtain ⟨a,cap,hv,hpairs,_⟩:=hr.shape
 by_cases hm:∀ r∈l,r.1≠who
 ·have hpl:placeOf who (l.map (·.1))=-1:=placeOf_none who _ (fun hm'=>by
   obtain ⟨r,hr',e⟩:=List.mem_map.1 hm'
   exact hm r hr' e)
  have hw:without who l=l:=without_all who l hm
  rw [hw]
  subst hv
  clear hm
  have HP:=Lib.hid hpl
  clear hpl hw
  unfold maxLen at hl
  go_enter Tryz.func171,Tryz.ntmps171
  go_wp2_with fail
  refine ((indexfunc_any l a cap who b o w (by unfold maxLen; omega) hpairs hp).mono (fun e w' h=>(⟨by rw [h.1,HP.out],h.2⟩:e=.returned (.int .i64 (-1))∧Below w.heap.size w w'))).mono ?_
  rintro e w1 ⟨rfl,hb1⟩
  go_wp2
  go_ret
  refine ⟨_,rfl,?_,hb1.mono hBw⟩
  obtain ⟨h1,h2⟩:=hr0
  refine ⟨h1,?_⟩
  rcases h2 with h2 | ⟨g,cap',cur,e1,e2,e3,e4⟩
  ·exact .inl h2
  ·exact .inr ⟨g,cap',cur,e1,e2,by rw [hb1.block g ((Array.getElem?_eq_some_iff.1 e3).1)]; exact e3,e4⟩
 ·obtain ⟨k0,hk0,hk0e,hk0n⟩:∃ k,∃ h:k<l.length,l[k].1=who∧∀ j (_:j<k) (hj:j<l.length),l[j].1≠who:=by
   clear hr hr0 hpairs hv
   induction l with
   | nil=>exact absurd (fun r h=>by cases h) hm
   | cons r l ih =>
    by_cases e:r.1=who
    ·exact ⟨0,by simp,e,fun j h=>absurd h (by omega)⟩
    ·obtain ⟨k,hk,h1,h2⟩:=ih (by simp at hl; omega) (fun h=>hm (fun x hx=>by
      rcases List.mem_cons.1 hx with rfl | hx
      ·exact e
      ·exact h x hx))
     refine ⟨k+1,by simp; omega,by simpa using h1,fun j hj hjl=>?_⟩
     cases j with
     | zero=>exact e
     | succ j=>simpa using h2 j (by omega) (by simpa using hjl)
  have hpl:placeOf who (l.map (·.1))=k0:=placeOf_at who _ k0 (by simpa using hk0) (by simpa using hk0e) (fun j hj=>by simpa using hk0n j hj (by omega))
  have HP:=Lib.hid hpl
  obtain ⟨h1,h2⟩:=hr0
  rcases h2 with ⟨_,h0⟩ | ⟨g,cap',cur,e1,hgB,hgh,hnc,hcm,hcs,htk⟩
  ·omega
  ·have hst:=DInv.start hk0 hk0e hk0n htk (by omega)
   have HST:=Lib.hid hst
   obtain rfl:v=.slice (some ⟨g,0,none⟩) l.length cap':=e1
   obtain ⟨rfl,rfl⟩:a=some ⟨g,0,none⟩∧cap=cap':=by simpa [eq_comm] using hv
   clear hpl hst hk0n hm htk h1 hr
   have HK0:=Lib.hid hk0e
   clear hk0e hv
   have hglt:g<w.heap.size:=(Array.getElem?_eq_some_iff.1 hgh).1
   unfold maxLen at hl hcm
   go_enter Tryz.func171,Tryz.ntmps171
   go_wp2_with fail
   refine ((indexfunc_any l _ cap who b o w (by unfold maxLen; omega) hpairs hp).mono (fun e w' h=>(⟨by rw [h.1,HP.out],h.2⟩:e=.returned (.int .i64 k0)∧Below w.heap.size w w'))).mono ?_
   rintro e w1 ⟨rfl,hb1⟩
   have hk0b:((k0:Int) == -1)=false:=by simp
   go_wp2
   go_loopw [5,6] (fun i j wr=>∃ (k n:Nat) (cr:Array Value),k≤l.length∧j=.int .i64 k∧i=.int .i64 n∧wr.heap[g]?=some (.cells cr 118 (0,0))∧cr.size=cap*2∧DInv who l cr k n∧Below B w wr∧w.heap.size≤wr.heap.size) (fun _ j _=>l.length - (intOf j).toNat)
   case atStart=>exact ⟨k0+1,k0,cur,by omega,by go_num,rfl,by rw [hb1.block g hglt]; exact hgh,hcs,HST.out,hb1.mono hBw,hb1.size⟩
   case round =>
    obtain ⟨k,n,cr,hk,rfl,rfl,hgr,hcr,hD,hbw,hsz⟩:=hrel
    have hDlt:=hD.lt
    have HD:=Lib.hid hD
    clear hD
    by_cases hlt:k<l.length
    ·obtain ⟨r1,r2⟩:=HD.out.rest k hlt (Nat.le_refl _)
     have c1:wr.cell? ⟨g,k*2,none⟩=some (.int .i64 l[k].1):=by simp [World.cell?,hgr,r1]
     have c2:wr.cell? ⟨g,k*2+1,none⟩=some (.int .i64 l[k].2):=by simp [World.cell?,hgr,r2]
     have cp:=(hbw.cell (p:=⟨b,o,none⟩) hbB).trans hp
     have cpa:∀ ob,(wr.alloc ob).cell? ⟨b,o,none⟩=some (.int .i64 who):=fun ob=>((bal wr ob).cell (p:=⟨b,o,none⟩) (by show b<_; omega)).trans cp
     have HG:=Lib.hid hgr
     clear hgr r1 r2
     go_wp2_with fail
     refine (with1_any _ _ who b o _ (cpa _)).mono ?_
     rintro e w2 ⟨rfl,hb2⟩
     have hb3:Below wr.heap.size wr w2:=bover hb2 (by simp)
     have hs2:=bsz hb2
     have hg2:w2.heap[g]?=some (.cells cr 118 (0,0)):=by rw [hb3.block g (by omega)]; exact HG.out
     have lc:∀ j,w2.cell? ⟨wr.heap.size,j,none⟩=(wr.alloc (.cells #[.int .i64 l[k].1,.int .i64 l[k].2] 118)).cell? ⟨wr.heap.size,j,none⟩:=fun j=>hb2.cell (p:=⟨wr.heap.size,j,none⟩) (by simp)
     by_cases he:l[k].1=who
     ·have heb:(l[k].1 == who)=true:=by simp [he]
      have HD':=Lib.hid (HD.out.drop hlt he)
      have HG2:=Lib.hid hg2
      clear he hg2
      go_wp2
      go_roundw
      case rel=>exact ⟨k+1,n,cr,by omega,by go_num,rfl,HG2.out,hcr,HD'.out,hbw.trans (hb3.mono (by omega)),by omega⟩
      case measure=>simp [intOf]; omega
     ·have heb:(l[k].1 == who)=false:=by simp [he]
      have HD':=Lib.hid (HD.out.keep hlt he)
      have hcs2:=HD.out.size
      have d1:(w2.cell? ⟨g,n*2,none⟩)=some (cr[n*2]'(by omega)):=by simp [World.cell?,hg2]
      have d2:(w2.cell? ⟨g,n*2+1,none⟩)=some (cr[n*2+1]'(by omega)):=by simp [World.cell?,hg2]
      have d3:w2.frozen? ⟨g,n*2,none⟩=false:=by simp [World.frozen?,hg2]
      have d4:w2.frozen? ⟨g,n*2+1,none⟩=false:=by simp [World.frozen?,hg2]
      have HG2:=Lib.hid hg2
      clear he hg2
      go_wp2
      go_roundw
      case rel=>exact ⟨k+1,n+1,_,by omega,by go_num,by go_num,setCell2_heap _ _ _ _ _ _ HG2.out,by simpa using hcr,HD'.out,((hbw.trans (hb3.mono (by omega))).setCell hgB _).setCell hgB _,by simp [World.setCell]; omega⟩
      case measure=>simp [intOf]; omega
    ·obtain rfl:k=l.length:=by omega
     obtain ⟨f1,f2⟩:=HD.out.fin
     have F1:=Lib.hid f1
     have F2:=Lib.hid f2
     clear f1 f2
     have hn2:n*2+(l.length - n)*2≤cr.size:=by omega
     have hcl:=fun ty c=>run_clear_reg wr g (n*2) (l.length - n) c ty cr (by omega) hgr hn2
     go_wp2
     go_ret
     refine ⟨_,rfl,?_,hbw.trans (below_setRow' (Below.refl _ _) hgB _)⟩
     refine ⟨pcells_length _,.inr ⟨g,cap,_,(by show Value.slice (some ⟨g,0,none⟩) n cap=_; rw [← F1.out]),hgB,setRow_heap _ _ _ _ _ _ hgr,by rw [← F1.out]; omega,by unfold maxLen; omega,?_,?_⟩⟩
     ·simp; omega
     ·rw [← F1.out]
      have hl2:(cr.toList.take (n*2)).length=n*2:=by simp; omega
      show List.take (n*2) (cr.toList.take (n*2) ++ _)=_
      rw [List.take_append_of_le_length (by omega),List.take_of_length_le (by omega)]
      exact F2.out
theorem run_copy_reg (w:World) (ty:TypeId) (g o dLen dCap:Nat) (a:Addr) (sLen sCap:Nat) (cur:Array Value) (cs:List Value)
  (hg:w.heap[g]?=some (.cells cur 118 (0,0))) (hn:cs.length=Nat.min sLen dLen*2)
  (hsrc:∀ j v,cs[j]?=some v→w.cell? (a.add j)=some v) (hfit:o+cs.length≤cur.size) (h1:∀ v∈cs,v.oneCell'=true) :
  (Builtin.copy_ #[33,33] ty #[.slice (some ⟨g,o,none⟩) dLen dCap,.slice (some a) sLen sCap]).run Tryz.prog w =
   .ok (goInt (Nat.min sLen dLen)) (w.setRow g (cur.toList.take o ++ cs ++ cur.toList.drop (o+cs.length)).toArray):=by
 obtain ⟨i0,hi,hz0,hz1,hz2⟩:=info_parts Tryz.infoReg
 have hl:=run_loadCells_list (P:=Tryz.prog) w a cs hsrc
 have hst:=run_storeCells_at Tryz.prog g o 118 cs 0 cur w hg (by simpa using hfit) h1
 simp [Builtin.copy_,run_underlying Tryz.underlying33,Builtin.lenOf,Builtin.firstCells,sizeOf,typeInfo,hi,hz1,← hn,hl,hst]
theorem row_cells {w:World} {g:Nat} {cur:Array Value} (hg:w.heap[g]?=some (.cells cur 118 (0,0))) (o n:Nat):∀ j v,((cur.toList.drop o).take n)[j]?=some v→w.cell? ((⟨g,o,none⟩:Addr).add j)=some v:=by
 intro j v hj
 have hadd:(⟨g,o,none⟩:Addr).add j=⟨g,o+j,none⟩:=by unfold Addr.add; split <;> simp_all
 rw [hadd,cell_of_row w g (o+j) cur _ _ hg]
 rw [List.getElem?_take] at hj
 split at hj
 ·rw [List.getElem?_drop] at hj; simpa using hj
 ·cases hj
def insertAt (l:List (Int × Int)) (i:Nat) (x:Int × Int):List (Int × Int):=l.take i ++ x :: l.drop i
set_option maxRecDepth 100000 in
theorem insert_end (l:List (Int × Int)) (a:Option Addr) (cap B:Nat) (x y:Int) (bv c1:Nat) (w:World) (hl:l.length≤100) (hr:OwnP B w (.slice a l.length cap) l) (hB:B≤w.heap.size)
  (hx:w.cell? ⟨bv,0,none⟩=some (.int .i64 x)) (hy:w.cell? ⟨bv,1,none⟩=some (.int .i64 y)) :
  Calls Tryz.prog 176 #[.slice a l.length cap,.int .i64 l.length,.slice (some ⟨bv,0,none⟩) 1 c1] w fun e w'=>∃ v',e=.returned v'∧OwnP B w' v' (insertAt l l.length (x,y))∧Below B w w':=by
 obtain ⟨i0,hi,hz0,hz1,hz2⟩:=info_parts Tryz.infoReg
 have hnews:∀ j u,(pcells [(x,y)])[j]?=some u→w.cell? ((⟨bv,0,none⟩:Addr).add j)=some u:=by
  intro j u hj
  have hadd:(⟨bv,0,none⟩:Addr).add j=⟨bv,j,none⟩:=by unfold Addr.add; split <;> simp_all
  rw [hadd]
  match j,hj with
  | 0,hj=>simp [pcells] at hj; rw [hx,hj]
  | 1,hj=>simp [pcells] at hj; rw [hy,hj]
  | j+2,hj=>simp [pcells] at hj
 have HR:=Lib.hid hr
 have hcap:l.length≤cap:=by
  obtain ⟨_,h2⟩:=hr
  rcases h2 with ⟨_,h0⟩ | ⟨g,cap',cur,e1,_,_,h3,_⟩
  ·omega
  ·simp at e1; omega
 have blk:∀ k,a.map (·.block)=some k→B≤k:=by
  obtain ⟨_,h2⟩:=hr
  rcases h2 with ⟨e1,_⟩ | ⟨g,cap',cur,e1,hg,_⟩
  ·simp at e1; intro k hk; rw [e1.1] at hk; cases hk
  ·simp at e1; intro k hk; rw [e1.1] at hk; simp at hk; omega
 have blk2:∀ k c,(Value.slice a l.length c).ownBlock=some k→B≤k:=fun k c hk=>blk k (by cases a <;> simp [Value.ownBlock] at hk ⊢; exact hk)
 have BLK:=Lib.hid blk2
 clear hr blk blk2
 go_enter Tryz.func176,Tryz.ntmps176
 go_wp2_with (at_builtin; refine wpList_append_own _ rfl _ _ 33 rfl B 118 i0 (.agg #[.int .i64 0,.int .i64 0]) 2 16 Tryz.underlying33 hi hz0 hz1 hz2 rfl (by decide) _ _ _ rfl HR.out ⟨bv,0,none⟩ 1 c1 (pcells [(x,y)]) rfl rfl hnews (pcells_one _) ?c3 ?c4 ?c5 ?_)
 case c3=>unfold maxLen; omega
 case c4=>omega
 case c5=>omega
 all_goals
  intro v' w1 hown1 hg1 _
  have hfin:OwnP B w1 v' (insertAt l l.length (x,y)):=by
   unfold OwnP insertAt
   simpa [pcells_append] using hown1
  have hbel:Below B w w1:=(Below.refl B w).grown hg1 hB (fun k hk=>BLK.out k _ hk)
  clear hown1 hg1
  go_wp2
  go_ret
  exact ⟨_,rfl,hfin,hbel⟩
theorem wpList_copy_run {P:Program} (w:World) {ops:Array Oper} {rest:List Oper} {o:Oper} {a:Act} {Q:Exit→Act→World→Prop} (hgd:o.guard=none) (s x:Operand) (t tn:TypeId)
  (ho:o.op=.call { callee:=.builtin .copy,args:=#[s,x],argTypes:=#[t,tn] }) (vs vx:Value) (hs:a.eval s=vs) (hx:a.eval x=vx)
  (v':Value) (w':World) (hr:(Builtin.copy_ #[t,tn] o.type #[vs,vx]).run P w=.ok v' w') (h:wpList P ops Q rest (a.put o.dst v') w'):wpList P ops Q (o :: rest) a w :=
 wpList_plain hgd fun K hK=>by
  unfold Oper.wp execOp
  simp only [ho,resolve,invoke,builtin,Sem.run_bind,Sem.run_pure,Result.andThen_ok,List.map_toArray,List.map_cons,List.map_nil,hs,hx,hr]
  exact hK _ _ h
theorem insert_row (l:List (Int × Int)) (cur:List Value) (i:Nat) (x y:Int) (hi:i<l.length) (hc:(l.length+1)*2≤cur.length) (ht:cur.take (l.length*2)=pcells l) :
  let m:=cur.take ((i+1)*2) ++ (cur.drop (i*2)).take ((l.length - i)*2) ++ cur.drop ((i+1)*2+(l.length - i)*2)
  let f:=m.take (i*2) ++ pcells [(x,y)] ++ m.drop (i*2+2)
  f.length=cur.length∧f.take ((l.length+1)*2)=pcells (insertAt l i (x,y)):=by
 intro m f
 have e1:cur.take (i*2)=pcells (l.take i):=by
  have:(cur.take (l.length*2)).take (i*2)=(pcells l).take (i*2):=by rw [ht]
  rw [List.take_take,Nat.min_eq_left (by omega)] at this
  rw [this]
  have h2:pcells l=pcells (l.take i) ++ pcells (l.drop i):=by rw [← pcells_append,List.take_append_drop]
  rw [h2,List.take_append_of_le_length (by rw [pcells_length]; simp; omega),List.take_of_length_le (by rw [pcells_length]; simp; omega)]
 have e2:(cur.drop (i*2)).take ((l.length - i)*2)=pcells (l.drop i):=by
  have h3:(cur.take (l.length*2)).drop (i*2)=(pcells l).drop (i*2):=by rw [ht]
  rw [List.drop_take] at h3
  rw [show (l.length - i)*2=l.length*2 - i*2 from by omega,h3]
  have h2:pcells l=pcells (l.take i) ++ pcells (l.drop i):=by rw [← pcells_append,List.take_append_drop]
  rw [h2,List.drop_append_of_le_length (by rw [pcells_length]; simp; omega),List.drop_of_length_le (by rw [pcells_length]; simp; omega)]
  rfl
 have hm:m=cur.take ((i+1)*2) ++ pcells (l.drop i) ++ cur.drop ((i+1)*2+(l.length - i)*2):=by rw [← e2]
 have hl1:(cur.take ((i+1)*2)).length=i*2+2:=by simp; omega
 have hm1:m.take (i*2)=pcells (l.take i):=by
  rw [hm,List.append_assoc,List.take_append_of_le_length (by omega),List.take_take,Nat.min_eq_left (by omega),e1]
 have hm2:m.drop (i*2+2)=pcells (l.drop i) ++ cur.drop ((i+1)*2+(l.length - i)*2):=by
  rw [hm,List.append_assoc,List.drop_append_of_le_length (by omega),List.drop_of_length_le (by omega)]
  rfl
 have hf:f=pcells (insertAt l i (x,y)) ++ cur.drop ((i+1)*2+(l.length - i)*2):=by
  show m.take (i*2) ++ pcells [(x,y)] ++ m.drop (i*2+2)=_
  rw [hm1,hm2]
  unfold insertAt
  simp [pcells]
 have hpl:(pcells (insertAt l i (x,y))).length=(l.length+1)*2:=by
  rw [pcells_length]; unfold insertAt; simp; omega
 refine ⟨?_,?_⟩
 ·rw [hf]; simp only [List.length_append,hpl,List.length_drop]; omega
 ·rw [hf,List.take_append_of_le_length (by omega),List.take_of_length_le (by omega)]
theorem overlaps_reg (w:World) (bv g o c1:Nat) (cv cur:Array Value) (T T':TypeId) (hne:bv≠g) (hv:w.heap[bv]?=some (.cells cv T (0,0))) (hg:w.heap[g]?=some (.cells cur T' (0,0))) (hc:cur.size≠0) (lb cb:Nat) :
  (callFunc 196 #[.slice (some ⟨bv,0,none⟩) 1 c1,.slice (some ⟨g,o,none⟩) lb cb]).run Tryz.prog w=.ok (.value (.bool false)) w:=by
 rw [run_callFunc_extern Tryz.func196 (by kernel_rfl) (by kernel_rfl) (by kernel_rfl) (e:=Extern.SlicesOverlaps.overlaps #[33,33] #[4]) (by kernel_rfl),
  Lib.run_overlaps_apart w 33 4 118 Tryz.underlying33 2 (fun w=>by kernel_rfl) ⟨bv,0,none⟩ ⟨g,o,none⟩ 1 c1 lb cb hne T T' cv.size cur.size (by simp [World.shape?,hv]) (by simp [World.shape?,hg]) hc (by simp [World.frozen?,hv]) (by simp [World.frozen?,hv])]
 rfl
set_option maxHeartbeats 1000000 in
set_option maxRecDepth 100000 in
theorem insert_mid (l:List (Int × Int)) (g cap B i:Nat) (x y:Int) (bv c1:Nat) (T:TypeId) (cur:Array Value) (w:World) (hl:l.length≤100) (hi:i<l.length) (hroom:l.length+1≤cap) (hcm:cap≤maxLen) (hgB:B≤g)
  (hgh:w.heap[g]?=some (.cells cur 118 (0,0))) (hcs:cur.size=cap*2) (ht:cur.toList.take (l.length*2)=pcells l) (hv:w.heap[bv]?=some (.cells #[.int .i64 x,.int .i64 y] T (0,0))) (hne:bv≠g) :
  Calls Tryz.prog 176 #[.slice (some ⟨g,0,none⟩) l.length cap,.int .i64 i,.slice (some ⟨bv,0,none⟩) 1 c1] w fun e w'=>∃ v',e=.returned v'∧OwnP B w' v' (insertAt l i (x,y))∧Below B w w':=by
 obtain ⟨hf1,hf2⟩:=insert_row l cur.toList i x y hi (by simp; omega) ht
 have hov:=overlaps_reg w bv g ((i+1)*2) c1 _ _ T _ hne hv hgh (by omega)
 have hlp:∀ m:List (Int × Int),∀ v∈pcells m,v.oneCell'=true:=pcells_one
 have hallone:∀ v∈(cur.toList.drop (i*2)).take ((l.length - i)*2),v.oneCell'=true:=by
  have e2:(cur.toList.drop (i*2)).take ((l.length - i)*2)=(pcells l).drop (i*2):=by
   rw [← ht,List.drop_take,show l.length*2 - i*2=(l.length - i)*2 from by omega]
  rw [e2]
  exact fun v hv=>pcells_one l v (List.mem_of_mem_drop hv)
 have hcp1:∀ ty dc sc,(Builtin.copy_ #[33,33] ty #[.slice (some ⟨g,(i+1)*2,none⟩) (l.length - i) dc,.slice (some ⟨g,i*2,none⟩) (l.length+1 - i) sc]).run Tryz.prog w.drew=.ok (goInt (l.length - i:Nat)) (w.drew.setRow g (cur.toList.take ((i+1)*2) ++ (cur.toList.drop (i*2)).take ((l.length - i)*2) ++ cur.toList.drop ((i+1)*2+(l.length - i)*2)).toArray):=by
  intro ty dc sc
  have hlen:((cur.toList.drop (i*2)).take ((l.length - i)*2)).length=(l.length - i)*2:=by simp; omega
  have hmin:Nat.min (l.length+1 - i) (l.length - i)=l.length - i:=by simp only [Nat.min_def]; split <;> omega
  have:=run_copy_reg w.drew ty g ((i+1)*2) (l.length - i) dc ⟨g,i*2,none⟩ (l.length+1 - i) sc cur ((cur.toList.drop (i*2)).take ((l.length - i)*2)) hgh (by rw [hlen,hmin]) (row_cells (w:=w.drew) hgh (i*2) ((l.length - i)*2)) (by rw [hlen]; omega) hallone
  rw [this,hmin,hlen]
 obtain ⟨m,hm⟩:∃ m,m=cur.toList.take ((i+1)*2) ++ (cur.toList.drop (i*2)).take ((l.length - i)*2) ++ cur.toList.drop ((i+1)*2+(l.length - i)*2):=⟨_,rfl⟩
 rw [← hm] at hcp1 hf1 hf2
 have hml:m.length=cur.size:=by
  have:(m.take (i*2) ++ pcells [(x,y)] ++ m.drop (i*2+2)).length=cur.toList.length:=hf1
  rw [hm]; simp; omega
 obtain ⟨W1,hW1⟩:∃ W1,W1=w.drew.setRow g m.toArray:=⟨_,rfl⟩
 rw [← hW1] at hcp1
 have hg1:W1.heap[g]?=some (.cells m.toArray 118 (0,0)):=by rw [hW1]; exact setRow_heap _ _ _ _ _ _ hgh
 have hv1:W1.heap[bv]?=some (.cells #[.int .i64 x,.int .i64 y] T (0,0)):=by rw [hW1,setRow_other _ _ _ _ hne]; exact hv
 have hbel:Below B w W1:=by rw [hW1]; exact below_setRow' ((Below.refl B w).drew) hgB _
 have hcp2:∀ ty dc,(Builtin.copy_ #[33,33] ty #[.slice (some ⟨g,i*2,none⟩) (l.length+1 - i) dc,.slice (some ⟨bv,0,none⟩) 1 c1]).run Tryz.prog W1=.ok (goInt (1:Nat)) (W1.setRow g (m.take (i*2) ++ pcells [(x,y)] ++ m.drop (i*2+2)).toArray):=by
  intro ty dc
  have hmin:Nat.min 1 (l.length+1 - i)=1:=by simp only [Nat.min_def]; split <;> omega
  have:=run_copy_reg W1 ty g (i*2) (l.length+1 - i) dc ⟨bv,0,none⟩ 1 c1 m.toArray (pcells [(x,y)]) hg1 (by rw [hmin]; rfl) (fun j u hj=>by
   have hadd:(⟨bv,0,none⟩:Addr).add j=⟨bv,j,none⟩:=by unfold Addr.add; split <;> simp_all
   rw [hadd,cell_of_row _ _ _ _ _ _ hv1]
   match j,hj with
   | 0,hj=>simpa [pcells] using hj
   | 1,hj=>simpa [pcells] using hj
   | j+2,hj=>simp [pcells] at hj) (by simp [pcells]; omega) (pcells_one _)
  rw [this,hmin]
  rfl
 have HF1:=Lib.hid hf1
 have HF2:=Lib.hid hf2
 have HM:=Lib.hid hml
 clear hf1 hf2 hm hml hallone hlp ht hv hv1 hW1
 have HG1:=Lib.hid hg1
 clear hg1
 unfold maxLen at hcm
 have hib:((i:Int) == (l.length:Int))=false:=by simp; omega
 go_enter Tryz.func176,Tryz.ntmps176
 have hw1:IntKind.i64.wrap ((i:Int)+1)=(i:Int)+1:=by rw [IntKind.wrap_i64]; omega
 have hb1:(0:Int)≤(i:Int)+1:=by omega
 have hin:i≤l.length:=by omega
 have htn:((i:Int)+1).toNat=i+1:=by omega
 have hb2:¬ (cap=i+1):=by omega
 have hb3:(i:Int)≤(l.length:Int)+1:=by omega
 have hb4:¬ (cap=i):=by omega
 go_wp2_with (simp only [hov])
 go_region_law (refine step_copy_reg rfl _ _ 33 33 rfl _ _ (by simp [Act.eval,Act.put]) (by simp [Act.eval,Act.put]) (hcp1 _ _ _) ?_)
 go_wp2_with (refine wpList_copy_run _ rfl _ _ 33 33 rfl _ _ rfl rfl _ _ (hcp2 _ _) ?_)
 go_ret
 refine ⟨_,rfl,?_,below_setRow' hbel hgB _⟩
 refine ⟨pcells_length _,.inr ⟨g,cap,_,?_,hgB,setRow_heap _ _ _ _ _ _ HG1.out,?_,by unfold maxLen; omega,?_,?_⟩⟩
 ·show Value.slice (some ⟨g,0,none⟩) (l.length+1) cap=_
  congr 1
  unfold insertAt; simp; omega
 ·unfold insertAt; simp; omega
 ·have:=HF1.out; simp at this ⊢; omega
 ·have e:(insertAt l i (x,y)).length=l.length+1:=by unfold insertAt; simp; omega
  rw [e]
  have:=HF2.out
  rw [List.append_assoc] at this
  exact this
theorem grow_row (l:List (Int × Int)) (C:List Value) (i:Nat) (x y:Int) (hi:i<l.length) (hc:(l.length+1)*2≤C.length) (ht:C.take (i*2)=pcells (l.take i)) :
  let m:=C.take (i*2) ++ pcells [(x,y)] ++ C.drop (i*2+2)
  let f:=m.take ((i+1)*2) ++ pcells (l.drop i) ++ m.drop ((i+1)*2+(l.length - i)*2)
  m.length=C.length∧f.length=C.length∧f.take ((l.length+1)*2)=pcells (insertAt l i (x,y)):=by
 intro m f
 have hp:(pcells [(x,y)]).length=2:=rfl
 have hd:(pcells (l.drop i)).length=(l.length - i)*2:=by rw [pcells_length]; simp
 have hm:m=pcells (l.take i ++ [(x,y)]) ++ C.drop (i*2+2):=by
  show C.take (i*2) ++ pcells [(x,y)] ++ C.drop (i*2+2)=_
  rw [ht,pcells_append]
 have hl1:(pcells (l.take i ++ [(x,y)])).length=(i+1)*2:=by rw [pcells_length]; simp; omega
 have hml:m.length=C.length:=by rw [hm]; simp only [List.length_append,hl1,List.length_drop]; omega
 have hm1:m.take ((i+1)*2)=pcells (l.take i ++ [(x,y)]):=by
  rw [hm,List.take_append_of_le_length (by omega),List.take_of_length_le (by omega)]
 have hf:f=pcells (insertAt l i (x,y)) ++ m.drop ((i+1)*2+(l.length - i)*2):=by
  show m.take ((i+1)*2) ++ pcells (l.drop i) ++ m.drop ((i+1)*2+(l.length - i)*2)=_
  rw [hm1,← pcells_append]
  unfold insertAt
  simp
 have hpl:(pcells (insertAt l i (x,y))).length=(l.length+1)*2:=by
  rw [pcells_length]; unfold insertAt; simp; omega
 refine ⟨hml,?_,?_⟩
 ·rw [hf]; simp only [List.length_append,hpl,List.length_drop]; omega
 ·rw [hf,List.take_append_of_le_length (by omega),List.take_of_length_le (by omega)]
theorem zeros_len (n:Nat):(Builtin.zeroCells #[.int .i64 0,.int .i64 0] n).toList.length=n*2:=by rw [zeros_reg]; simp
set_option maxHeartbeats 1000000 in
set_option maxRecDepth 100000 in
theorem insert_grow (l:List (Int × Int)) (g B i:Nat) (x y:Int) (bv c1:Nat) (T:TypeId) (cur:Array Value) (w:World) (hl:l.length≤100) (hi:i<l.length) (hB:B≤w.heap.size)
  (hgh:w.heap[g]?=some (.cells cur 118 (0,0))) (hcs:cur.size=l.length*2) (ht:cur.toList.take (l.length*2)=pcells l) (hv:w.heap[bv]?=some (.cells #[.int .i64 x,.int .i64 y] T (0,0))) :
  Calls Tryz.prog 176 #[.slice (some ⟨g,0,none⟩) l.length l.length,.int .i64 i,.slice (some ⟨bv,0,none⟩) 1 c1] w fun e w'=>∃ v',e=.returned v'∧OwnP B w' v' (insertAt l i (x,y))∧Below B w w':=by
 obtain ⟨i0,hin0,hz0,hz1,hz2⟩:=info_parts Tryz.infoReg
 have htl:cur.toList=pcells l:=by rw [← ht,List.take_of_length_le (by simp; omega)]
 have hglt:g<w.heap.size:=(Array.getElem?_eq_some_iff.1 hgh).1
 have hbvlt:bv<w.heap.size:=(Array.getElem?_eq_some_iff.1 hv).1
 have hsplit:pcells l=pcells (l.take i) ++ pcells (l.drop i):=by rw [← pcells_append,List.take_append_drop]
 have htk:(pcells (l.take i)).length=i*2:=by rw [pcells_length]; simp; omega
 have hdk:(pcells (l.drop i)).length=(l.length - i)*2:=by rw [pcells_length]; simp
 have hold:(Builtin.firstCells i0.size i (.slice (some ⟨g,0,none⟩) i l.length)).run Tryz.prog w.drew=.ok (pcells (l.take i)).toArray w.drew:=by
  rw [hz1]
  have h1:=run_loadCells_list (P:=Tryz.prog) w.drew ⟨g,0,none⟩ (pcells (l.take i)) (fun j u hj=>by
   refine row_cells (w:=w.drew) hgh 0 (i*2) j u ?_
   rw [htl,hsplit,List.drop_zero,List.take_append_of_le_length (by omega),List.take_of_length_le (by omega)]
   exact hj)
  rw [htk] at h1
  exact h1
 have hnx:Builtin.nextslicecap (i+(l.length+1 - i)) l.length≤1000:=by
  unfold Builtin.nextslicecap
  split
  ·omega
  ·rw [if_pos (by omega)]; omega
 have happ:=fun ty=>Lib.run_append_grow_zeros (P:=Tryz.prog) w 33 3 ty 118 i0 (.agg #[.int .i64 0,.int .i64 0]) .i64 .i64 Tryz.underlying33 Tryz.underlying3 hin0 hz0 (some ⟨g,0,none⟩) i l.length (pcells (l.take i)) hold (l.length+1 - i) (by omega) (by omega) (by omega) (by omega) (by rw [hz2]; omega) (by rw [hz2]; omega)
 rw [show i+(l.length+1 - i)=l.length+1 from by omega,show ((l.length+1 - i:Nat):Int)=(l.length:Int)+1 - (i:Int) from by omega] at happ
 have hc1:=grownCap_ge w (l.length+1) l.length 118
 have hc2:=grownCap_le_maxLen w (l.length+1) l.length 118 (by unfold maxLen; omega)
 generalize grownCap w (l.length+1) l.length 118=c at happ hc1 hc2
 obtain ⟨C,hC⟩:∃ C:Array Value,C=(pcells (l.take i)).toArray ++ Builtin.zeroCells (Value.agg #[.int .i64 0,.int .i64 0]).cells (l.length+1 - i) ++ Builtin.zeroCells (Value.agg #[.int .i64 0,.int .i64 0]).cells (c - (l.length+1)):=⟨_,rfl⟩
 rw [← hC] at happ
 have hCl:C.toList=pcells (l.take i) ++ ((Builtin.zeroCells #[.int .i64 0,.int .i64 0] (l.length+1 - i)).toList ++ (Builtin.zeroCells #[.int .i64 0,.int .i64 0] (c - (l.length+1))).toList):=by
  rw [hC]; simp [Value.cells]
 have hCs:C.size=c*2:=by
  have:C.toList.length=c*2:=by
   rw [hCl]; simp only [List.length_append,htk,zeros_len]; omega
  simpa using this
 have hCt:C.toList.take (i*2)=pcells (l.take i):=by rw [hCl,List.take_append_of_le_length (by omega),List.take_of_length_le (by omega)]
 obtain ⟨gm,gf,gt⟩:=grow_row l C.toList i x y hi (by simp; omega) hCt
 obtain ⟨m,hm⟩:∃ m,m=C.toList.take (i*2) ++ pcells [(x,y)] ++ C.toList.drop (i*2+2):=⟨_,rfl⟩
 rw [← hm] at gm gf gt
 obtain ⟨W1,hW1⟩:∃ W1,W1=w.drew.alloc (.cells C 118):=⟨_,rfl⟩
 rw [← hW1] at happ
 have hg1:W1.heap[w.heap.size]?=some (.cells C 118 (0,0)):=by rw [hW1]; exact heap_alloc_new w.drew _
 have hgg:W1.heap[g]?=some (.cells cur 118 (0,0)):=by rw [hW1,Below.heap_alloc w.drew _ _ hglt]; exact hgh
 have hvv:W1.heap[bv]?=some (.cells #[.int .i64 x,.int .i64 y] T (0,0)):=by rw [hW1,Below.heap_alloc w.drew _ _ hbvlt]; exact hv
 have hb1:Below B w W1:=by rw [hW1]; exact ((Below.refl B w).drew).alloc hB _
 have hcp1:∀ ty dc,(Builtin.copy_ #[33,33] ty #[.slice (some ⟨w.heap.size,i*2,none⟩) (l.length+1 - i) dc,.slice (some ⟨bv,0,none⟩) 1 c1]).run Tryz.prog W1=.ok (goInt (1:Nat)) (W1.setRow w.heap.size m.toArray):=by
  intro ty dc
  have hmin:Nat.min 1 (l.length+1 - i)=1:=by simp only [Nat.min_def]; split <;> omega
  have:=run_copy_reg W1 ty w.heap.size (i*2) (l.length+1 - i) dc ⟨bv,0,none⟩ 1 c1 C (pcells [(x,y)]) hg1 (by rw [hmin]; rfl) (fun j u hj=>by
   have hadd:(⟨bv,0,none⟩:Addr).add j=⟨bv,j,none⟩:=by unfold Addr.add; split <;> simp_all
   rw [hadd,cell_of_row _ _ _ _ _ _ hvv]
   match j,hj with
   | 0,hj=>simpa [pcells] using hj
   | 1,hj=>simpa [pcells] using hj
   | j+2,hj=>simp [pcells] at hj) (by simp [pcells]; omega) (pcells_one _)
  rw [this,hmin,hm]
  rfl
 obtain ⟨W2,hW2⟩:∃ W2,W2=W1.setRow w.heap.size m.toArray:=⟨_,rfl⟩
 rw [← hW2] at hcp1
 have hg2:W2.heap[w.heap.size]?=some (.cells m.toArray 118 (0,0)):=by rw [hW2]; exact setRow_heap _ _ _ _ _ _ hg1
 have hgg2:W2.heap[g]?=some (.cells cur 118 (0,0)):=by rw [hW2,setRow_other _ _ _ _ (by omega)]; exact hgg
 have hb2:Below B w W2:=by rw [hW2]; exact below_setRow' hb1 hB _
 have hms:m.toArray.size=c*2:=by simpa [hCs] using gm
 have hcp2:∀ ty dc sc,(Builtin.copy_ #[33,33] ty #[.slice (some ⟨w.heap.size,(i+1)*2,none⟩) (l.length - i) dc,.slice (some ⟨g,i*2,none⟩) (l.length - i) sc]).run Tryz.prog W2.drew=.ok (goInt (l.length - i:Nat)) (W2.drew.setRow w.heap.size (m.take ((i+1)*2) ++ pcells (l.drop i) ++ m.drop ((i+1)*2+(l.length - i)*2)).toArray):=by
  intro ty dc sc
  have hmin:Nat.min (l.length - i) (l.length - i)=l.length - i:=by simp
  have:=run_copy_reg W2.drew ty w.heap.size ((i+1)*2) (l.length - i) dc ⟨g,i*2,none⟩ (l.length - i) sc m.toArray (pcells (l.drop i)) hg2 (by rw [hdk,hmin]) (fun j u hj=>by
   refine row_cells (w:=W2.drew) hgg2 (i*2) ((l.length - i)*2) j u ?_
   rw [htl,hsplit,List.drop_append_of_le_length (by omega),List.drop_of_length_le (by omega),List.nil_append,List.take_of_length_le (by omega)]
   exact hj) (by rw [hdk]; omega) (pcells_one _)
  rw [this,hmin,hdk]
 have GF:=Lib.hid gf
 have GT:=Lib.hid gt
 have HG2:=Lib.hid hg2
 clear gm gf gt hm hC hCl hCt hW1 hW2 hg1 hgg hvv hg2 hgg2 hv hgh htl hsplit ht hold
 unfold maxLen at hc2
 have hib:((i:Int) == (l.length:Int))=false:=by simp; omega
 have hw1:IntKind.i64.wrap ((i:Int)+1)=(i:Int)+1:=by rw [IntKind.wrap_i64]; omega
 have hbb1:(0:Int)≤(i:Int)+1:=by omega
 have hin:i≤l.length:=by omega
 have htn:((i:Int)+1).toNat=i+1:=by omega
 have hb2':¬ (c=i+1):=by omega
 have hb3:(i:Int)≤(l.length:Int)+1:=by omega
 have hb4:¬ (l.length=i):=by omega
 have hb5:¬ (c=i):=by omega
 go_enter Tryz.func176,Tryz.ntmps176
 go_wp2_with (first | (refine Lib.wpList_append_run _ rfl _ _ 33 3 rfl _ _ rfl rfl _ _ (happ _) ?_) | (refine wpList_copy_run _ rfl _ _ 33 33 rfl _ _ rfl rfl _ _ (hcp1 _ _) ?_))
 go_region_law (refine step_copy_reg rfl _ _ 33 33 rfl _ _ (by simp [Act.eval,Act.put]) (by simp [Act.eval,Act.put]) (hcp2 _ _ _) ?_)
 go_wp2
 go_ret
 refine ⟨_,rfl,?_,below_setRow' (hb2.drew) hB _⟩
 refine ⟨pcells_length _,.inr ⟨w.heap.size,c,_,?_,hB,setRow_heap _ _ _ _ _ _ HG2.out,?_,by unfold maxLen; omega,?_,?_⟩⟩
 ·show Value.slice (some ⟨w.heap.size,0,none⟩) (l.length+1) c=_
  congr 1
  unfold insertAt; simp; omega
 ·unfold insertAt; simp; omega
 ·have:=GF.out; simp at this ⊢; simp at hms; omega
 ·have e:(insertAt l i (x,y)).length=l.length+1:=by unfold insertAt; simp; omega
  rw [e]
  have:=GT.out
  rw [List.append_assoc] at this
  exact this
theorem with2_any (x y who:Int) (w:World) (hx:0≤x∧x≤1000) (hw:0≤who∧who≤1000) :
  Calls Tryz.prog 175 #[.agg #[.int .i64 x,.int .i64 y],.int .i64 who] w fun e w'=>e=.returned (.int .i64 (x - who))∧Below w.heap.size w w':=by
 obtain ⟨hx1,hx2⟩:=hx
 obtain ⟨hw1,hw2⟩:=hw
 go_enter Tryz.func175,Tryz.ntmps175
 go_wp2
 go_ret
 exact ⟨rfl,bal w _⟩
set_option maxHeartbeats 1000000 in
set_option maxRecDepth 100000 in
theorem binsearch_any (l:List (Int × Int)) (a:Option Addr) (cap:Nat) (who:Int) (w:World) (hl:l.length≤1000) (hr:Pairs w.heap.size w a l) (hw:0≤who∧who≤1000) (hb:∀ r∈l,0≤r.1∧r.1≤1000) (hs:l.Pairwise (fun a b=>a.1<b.1)) :
  Calls Tryz.prog 174 #[.slice a l.length cap,.int .i64 who,.func (.func 175) #[] #[]] w fun e w' =>
   ∃ (i:Nat) (f:Bool),e=.returned (.tuple #[.int .i64 i,.bool f])∧i≤l.length∧(∀ j (h:j<l.length),j<i→l[j].1<who)∧(∀ j (h:j<l.length),i≤j→who≤l[j].1)∧Below w.heap.size w w':=by
 have HS:=Lib.hid hs
 have HB:=Lib.hid hb
 clear hs hb
 have HW:=Lib.hid hw
 obtain ⟨hw1,hw2⟩:=hw
 go_enter Tryz.func174,Tryz.ntmps174
 go_wp2
 go_loopw [9,10] (fun i j wr=>∃ p q:Nat,p≤q∧q≤l.length∧i=.int .i64 p∧j=.int .i64 q∧(∀ m (h:m<l.length),m<p→l[m].1<who)∧(∀ m (h:m<l.length),q≤m→who≤l[m].1)∧Below w.heap.size w wr) (fun i j _=>(intOf j).toNat - (intOf i).toNat)
 case atStart=>exact ⟨0,l.length,by omega,by omega,rfl,rfl,fun m h h2=>absurd h2 (by omega),fun m h h2=>absurd h (by omega),Below.refl _ _⟩
 case round =>
  obtain ⟨p,q,hpq,hq,rfl,rfl,hlo,hhi,hbw⟩:=hrel
  have HLO:=Lib.hid hlo
  have HHI:=Lib.hid hhi
  clear hlo hhi
  have hsz:=hbw.size
  by_cases hlt:p<q
  ·have hm:(p+q) / 2<l.length:=by omega
   obtain ⟨b,o,rfl,hbs,h1,h2⟩:=hr ((p+q) / 2) hm
   have c1:=(hbw.cell (p:=⟨b,o+(p+q) / 2*2,none⟩) hbs).trans h1
   have c2:=(hbw.cell (p:=⟨b,o+(p+q) / 2*2+1,none⟩) hbs).trans h2
   have hbd:=HB.out _ (List.getElem_mem hm)
   clear hr h1 h2
   go_wp2_with fail
   refine (with2_any _ _ who _ hbd HW.out).mono ?_
   rintro e w1 ⟨rfl,hb1⟩
   have hb2:=hbw.trans (hb1.mono hsz)
   have HS2:=Lib.hid (List.pairwise_iff_getElem.1 HS.out)
   by_cases hv:l[(p+q) / 2].1 - who<0
   ·go_wp2
    go_roundw
    case rel =>
     refine ⟨(p+q) / 2+1,q,by omega,by omega,by go_num,rfl,fun m h hm2=>?_,HHI.out,hb2⟩
     rcases (by omega:m<(p+q) / 2∨m=(p+q) / 2) with h3 | h3
     ·have:=HS2.out m ((p+q) / 2) h hm h3; omega
     ·subst h3; omega
    case measure=>simp [intOf]; omega
   ·go_wp2
    go_roundw
    case rel =>
     refine ⟨p,(p+q) / 2,by omega,by omega,rfl,by go_num,HLO.out,fun m h hm2=>?_,hb2⟩
     rcases (by omega:(p+q) / 2<m∨m=(p+q) / 2) with h3 | h3
     ·have:=HS2.out ((p+q) / 2) m hm h h3; omega
     ·subst h3; omega
    case measure=>simp [intOf]; omega
  ·obtain rfl:p=q:=by omega
   by_cases hn:p<l.length
   ·obtain ⟨b,o,rfl,hbs,h1,h2⟩:=hr p hn
    have c1:=(hbw.cell (p:=⟨b,o+p*2,none⟩) hbs).trans h1
    have c2:=(hbw.cell (p:=⟨b,o+p*2+1,none⟩) hbs).trans h2
    have hbd:=HB.out _ (List.getElem_mem hn)
    clear hr h1 h2
    go_wp2_with fail
    refine (with2_any _ _ who _ hbd HW.out).mono ?_
    rintro e w1 ⟨rfl,hb1⟩
    have hb2:=hbw.trans (hb1.mono hsz)
    go_wp2
    go_ret2
    exact ⟨p,_,rfl,by omega,HLO.out,HHI.out,hb2⟩
   ·go_wp2
    go_ret2
    exact ⟨p,_,rfl,by omega,HLO.out,HHI.out,hbw⟩
end Go.Proofs.YtajegiifabfcjaaGreatDoor
