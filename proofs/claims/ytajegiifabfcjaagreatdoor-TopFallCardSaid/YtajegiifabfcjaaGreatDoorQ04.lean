/-
  DelPlain, Others, Keeps, Admit, NewR, Row, Open, OpenR
-/
import Derived.Test.YtajegiifabfcjaaGreatDoorQ03
import Derived.Deep.DeepCutAuto
import Derived.RegionTactic
import Derived.BigQuiet
import Derived.Deep.RegionLaw
import Derived.Deep.RegionHeld3
import Derived.StillTailTactics
import Derived.Deep.QuietTactic
import Derived.ProofKit
import Derived.OpenShut
import Derived.Deep.Slices
import Derived.Deep.Fields
import Derived.ChangeSame
namespace Go.Proofs.YtajegiifabfcjaaGreatDoor
open Go.RowKit
def without (who:Int) (l:List (Int × Int)):List (Int × Int):=l.filter fun r=>!(r.1 == who)
theorem without_all (who:Int) (l:List (Int × Int)) (h:∀ r∈l,r.1≠who):without who l=l:=by
 unfold without
 rw [List.filter_eq_self]
 intro r hr
 simp [h r hr]
theorem without_snoc_hit (who:Int) (l:List (Int × Int)) (k:Nat) (h:k<l.length) (e:l[k].1=who):without who (l.take (k+1))=without who (l.take k):=by
 rw [List.take_succ_eq_append_getElem h]
 unfold without
 rw [List.filter_append]
 simp only [List.filter_cons,List.filter_nil]
 simp [e]
theorem without_snoc_miss (who:Int) (l:List (Int × Int)) (k:Nat) (h:k<l.length) (e:l[k].1≠who):without who (l.take (k+1))=without who (l.take k) ++ [l[k]]:=by
 rw [List.take_succ_eq_append_getElem h]
 unfold without
 rw [List.filter_append]
 simp only [List.filter_cons,List.filter_nil]
 simp [e]
structure DInv (who:Int) (l:List (Int × Int)) (cur:Array Value) (k i:Nat):Prop where
 len:i=(without who (l.take k)).length
 pre:cur.toList.take (i*2)=pcells (without who (l.take k))
 rest:∀ m (h:m<l.length),k≤m→cur[m*2]?=some (.int .i64 l[m].1)∧cur[m*2+1]?=some (.int .i64 l[m].2)
 lt:i<k
 size:l.length*2≤cur.size
theorem row_rest {l:List (Int × Int)} {cur:Array Value} (h:cur.toList.take (l.length*2)=pcells l) (m:Nat) (hm:m<l.length):cur[m*2]?=some (.int .i64 l[m].1)∧cur[m*2+1]?=some (.int .i64 l[m].2):=by
 obtain ⟨p1,p2⟩:=pcells_at l m hm
 have hcell:∀ j,j<l.length*2→cur[j]?=(pcells l)[j]?:=by
  intro j hj
  rw [← h,List.getElem?_take_of_lt hj]; simp
 exact ⟨(hcell _ (by omega)).trans p1,(hcell _ (by omega)).trans p2⟩
theorem DInv.start {who:Int} {l:List (Int × Int)} {cur:Array Value} {k:Nat} (hk:k<l.length) (e:l[k].1=who) (hn:∀ j (_:j<k) (hj:j<l.length),l[j].1≠who) (hc:cur.toList.take (l.length*2)=pcells l) (hs:l.length*2≤cur.size) :
  DInv who l cur (k+1) k:=by
 have hw:without who (l.take k)=l.take k:=without_all who _ (fun r hr=>by
  obtain ⟨j,hj,rfl⟩:=List.getElem_of_mem hr
  rw [List.length_take] at hj
  rw [List.getElem_take]
  exact hn j (by omega) (by omega))
 refine ⟨?_,?_,fun m hm _=>row_rest hc m hm,by omega,hs⟩
 ·rw [without_snoc_hit who l k hk e,hw]; simp; omega
 ·rw [without_snoc_hit who l k hk e,hw]
  have:(cur.toList.take (l.length*2)).take (k*2)=(pcells l).take (k*2):=by rw [hc]
  rw [List.take_take,Nat.min_eq_left (by omega)] at this
  rw [this]
  have h2:pcells l=pcells (l.take k) ++ pcells (l.drop k):=by rw [← pcells_append,List.take_append_drop]
  rw [h2,List.take_append_of_le_length (by rw [pcells_length]; simp; omega),List.take_of_length_le (by rw [pcells_length]; simp; omega)]
theorem DInv.drop {who:Int} {l:List (Int × Int)} {cur:Array Value} {k i:Nat} (h:DInv who l cur k i) (hk:k<l.length) (e:l[k].1=who):DInv who l cur (k+1) i :=
 ⟨by rw [without_snoc_hit who l k hk e]; exact h.len,by rw [without_snoc_hit who l k hk e]; exact h.pre,fun m hm hkm=>h.rest m hm (by omega),by have:=h.lt; omega,h.size⟩
theorem DInv.keep {who:Int} {l:List (Int × Int)} {cur:Array Value} {k i:Nat} (h:DInv who l cur k i) (hk:k<l.length) (e:l[k].1≠who) :
  DInv who l ((cur.setIfInBounds (i*2) (.int .i64 l[k].1)).setIfInBounds (i*2+1) (.int .i64 l[k].2)) (k+1) (i+1):=by
 have hlt:=h.lt
 have hsz:=h.size
 refine ⟨?_,?_,fun m hm hkm=>?_,by omega,by simpa using h.size⟩
 ·rw [without_snoc_miss who l k hk e]; simp [← h.len]
 ·rw [without_snoc_miss who l k hk e,pcells_append,← h.pre]
  apply List.ext_getElem?
  intro j
  rw [List.getElem?_append]
  have hl:(cur.toList.take (i*2)).length=i*2:=by simp; omega
  rw [hl]
  by_cases hj:j<i*2
  ·rw [if_pos hj,List.getElem?_take_of_lt (by omega),List.getElem?_take_of_lt hj]
   simp only [Array.getElem?_toList,Array.getElem?_setIfInBounds]
   rw [if_neg (by omega),if_neg (by omega)]
  ·rw [if_neg hj]
   by_cases hj2:j<(i+1)*2
   ·rw [List.getElem?_take_of_lt hj2]
    simp only [Array.getElem?_toList,Array.getElem?_setIfInBounds,Array.size_setIfInBounds]
    rcases (by omega:j=i*2∨j=i*2+1) with rfl | rfl
    ·rw [if_neg (by omega),if_pos rfl,if_pos (by omega)]; simp [pcells]
    ·rw [if_pos rfl,if_pos (by omega)]; simp [pcells]
   ·rw [List.getElem?_eq_none (by simp; omega),List.getElem?_eq_none (by simp [pcells]; omega)]
 ·have:=h.rest m hm (by omega)
  simp only [Array.getElem?_setIfInBounds]
  rw [if_neg (by omega),if_neg (by omega),if_neg (by omega),if_neg (by omega)]
  exact this
theorem DInv.fin {who:Int} {l:List (Int × Int)} {cur:Array Value} {i:Nat} (h:DInv who l cur l.length i):i=(without who l).length∧cur.toList.take (i*2)=pcells (without who l):=by
 have h1:=h.len
 have h2:=h.pre
 rw [List.take_length] at h1 h2
 exact ⟨h1,h2⟩
def OwnI (B:Nat) (w:World) (v:Value) (l:List Int):Prop:=w.ownsRow B 3 1 v l.length (l.map (Value.int .i64))
theorem Tryz.infoInt:(Tryz.prog.info? 3).map (fun i=>(i.zero,i.size,i.bytes))=some (some (.int .i64 0),1,8):=by kernel_rfl
theorem OwnI.shape {B:Nat} {w:World} {v:Value} {l:List Int} (h:OwnI B w v l):∃ a cap,v=.slice a l.length cap∧Ints w.heap.size w a l:=by
 obtain ⟨h1,h2⟩:=h
 rcases h2 with ⟨rfl,hn⟩ | ⟨g,cap,cur,rfl,hg,hh,hc,hm,hs,ht⟩
 ·have:l=[]:=List.length_eq_zero_iff.1 hn
  subst this
  exact ⟨none,0,rfl,Ints.nil _ _ _⟩
 ·refine ⟨_,cap,rfl,fun i hi=>?_⟩
  have hlt:g<w.heap.size:=(Array.getElem?_eq_some_iff.1 hh).1
  refine ⟨g,0,rfl,hlt,?_⟩
  have hcell:w.cell? ⟨g,0+i,none⟩=(l.map (Value.int .i64))[i]?:=by
   rw [← ht,List.getElem?_take_of_lt (by omega)]
   simp [World.cell?,hh]
  rw [hcell]; simp [hi]
theorem OwnI.mono {B C:Nat} {w:World} {v:Value} {l:List Int} (h:OwnI C w v l) (hB:B≤C):OwnI B w v l:=by
 obtain ⟨h1,h2⟩:=h
 refine ⟨h1,?_⟩
 rcases h2 with h2 | ⟨g,cap,cur,e1,e2,e3⟩
 ·exact .inl h2
 ·exact .inr ⟨g,cap,cur,e1,by omega,e3⟩
theorem OwnI.blk {B:Nat} {w:World} {v:Value} {l:List Int} (h:OwnI B w v l):∀ k,v.ownBlock=some k→B≤k:=by
 obtain ⟨_,h2⟩:=h
 rcases h2 with ⟨rfl,_⟩ | ⟨g,cap,cur,rfl,hg,_⟩
 ·intro k hk; cases hk
 ·intro k hk; simp [Value.ownBlock] at hk; omega
theorem OwnI.below {B:Nat} {w w':World} {v:Value} {l:List Int} (h:OwnI B w v l) (hb:Below w.heap.size w w'):OwnI B w' v l:=by
 obtain ⟨h1,h2⟩:=h
 refine ⟨h1,?_⟩
 rcases h2 with h2 | ⟨g,cap,cur,e1,e2,e3,e4⟩
 ·exact .inl h2
 ·exact .inr ⟨g,cap,cur,e1,e2,by rw [hb.block g ((Array.getElem?_eq_some_iff.1 e3).1)]; exact e3,e4⟩
def othersL (who:Int) (l:List (Int × Int)):List Int:=(without who l).map (·.1)
theorem others_hit (who:Int) (l:List (Int × Int)) (k:Nat) (h:k<l.length) (e:l[k].1=who):othersL who (l.take (k+1))=othersL who (l.take k):=by
 unfold othersL; rw [without_snoc_hit who l k h e]
theorem others_miss (who:Int) (l:List (Int × Int)) (k:Nat) (h:k<l.length) (e:l[k].1≠who):othersL who (l.take (k+1))=othersL who (l.take k) ++ [l[k].1]:=by
 unfold othersL; rw [without_snoc_miss who l k h e]; simp
theorem others_len (who:Int) (l:List (Int × Int)) (k:Nat):(othersL who (l.take k)).length≤k:=by
 unfold othersL without
 rw [List.length_map]
 exact Nat.le_trans (List.length_filter_le _ _) (by simp; omega)
set_option maxHeartbeats 1000000 in
theorem others_any (s:St) (a:Option Addr) (cap:Nat) (who:Int) (w:World) (hr:StR w s a) (hl:s.regs.length≤100) :
  Calls Tryz.prog 121 #[stV s a cap,.int .i64 who] w fun e w'=>∃ v,e=.returned v∧OwnI w.heap.size w' v (othersL who s.regs)∧Below w.heap.size w w':=by
 obtain ⟨g,l,t,h,st⟩:=s
 obtain ⟨_,hr⟩:=hr
 dsimp only at hl hr
 obtain ⟨i0,hi,hz0,hz1,hz2⟩:=info_parts Tryz.infoInt
 go_enter Tryz.func121,Tryz.ntmps121
 go_wp2
 go_loopw [5,11] (fun v i wr=>∃ k:Nat,k≤l.length∧i=.int .i64 k∧OwnI (w.heap.size+1) wr v (othersL who (l.take k))∧Below (w.heap.size+1) (w.alloc (.cells #[.int .i64 g,.slice a l.length cap,.int .i64 t,.int .i64 h,.bool st] 35)) wr) (fun _ i _=>l.length - (intOf i).toNat)
 case atStart=>exact ⟨0,by omega,rfl,⟨rfl,.inl ⟨rfl,rfl⟩⟩,Below.refl _ _⟩
 case round =>
  obtain ⟨k,hk,rfl,hown,hb⟩:=hrel
  have HOWN:=Lib.hid hown
  have HBLK:=Lib.hid hown.blk
  clear hown
  have hs:=bsz hb
  have hol:=others_len who l k
  by_cases hlt:k<l.length
  ·obtain ⟨b,o,rfl,hbs,h1,h2⟩:=hr k hlt
   have c1:=((bover hb (by omega)).cell (p:=⟨b,o+k*2,none⟩) hbs).trans h1
   have c2:=((bover hb (by omega)).cell (p:=⟨b,o+k*2+1,none⟩) hbs).trans h2
   clear hr h1 h2
   rcases (by omega:l[k].1=who∨l[k].1≠who) with he | he
   ·have heb:(l[k].1 != who)=false:=by simp [he]
    have HE:=Lib.hid (others_hit who l k hlt he)
    clear he
    go_wp2
    go_roundw
    case rel=>exact ⟨k+1,by omega,by go_num,by rw [HE.out]; exact HOWN.out.alloc _,hb.alloc (by omega) _⟩
    case measure=>simp [intOf]; omega
   ·have heb:(l[k].1 != who)=true:=by simp [he]
    have HE:=Lib.hid (others_miss who l k hlt he)
    clear he
    go_wp2_with (at_builtin; refine wpList_append_own _ rfl _ _ 65 rfl (w.heap.size+1) 3 i0 (.int .i64 0) 1 8 Tryz.underlying65 hi hz0 hz1 hz2 rfl (by decide) _ _ _ rfl ((HOWN.out.alloc _).alloc _) ⟨wr.heap.size+1,0,none⟩ 1 1 [.int .i64 l[k].1] rfl rfl ?c1 ?c2 ?c3 ?c4 ?c5 ?_)
    case c1 =>
     intro j u hj
     match j,hj with
     | 0,hj=>simp at hj; subst hj; simp [Addr.add]
    case c2=>intro u hu; simp at hu; subst hu; rfl
    case c3=>unfold maxLen; omega
    case c4=>omega
    case c5=>simp; omega
    intro v' w1 hown1 hg1 _
    have hb1:Below (w.heap.size+1) (w.alloc (.cells #[.int .i64 g,.slice (some ⟨b,o,none⟩) l.length cap,.int .i64 t,.int .i64 h,.bool st] 35)) w1:=((hb.alloc (by omega) _).alloc (by simp; omega) _).grown hg1 (by simp; omega) HBLK.out
    have HO1:=Lib.hid hown1
    clear hown1 hg1
    go_wp2
    go_roundw
    case rel=>exact ⟨k+1,by omega,by go_num,by rw [HE.out]; simpa [OwnI] using HO1.out,hb1⟩
    case measure=>simp [intOf]; omega
  ·go_wp2
   go_ret
   exact ⟨_,rfl,by rw [← List.take_of_length_le (show l.length≤k by omega)]; exact HOWN.out.mono (by omega),bover hb (by omega)⟩
set_option maxHeartbeats 1000000 in
set_option maxRecDepth 100000 in
theorem rothers_any (s:St) (a:Option Addr) (cap:Nat) (who:Int) (w:World) (hr:StR w s a) (hl:s.regs.length≤100) :
  Calls Tryz.prog 73 #[stV s a cap,.int .i64 who] w fun e w'=>∃ v,e=.returned v∧OwnI w.heap.size w' v (othersL who s.regs)∧Below w.heap.size w w':=by
 obtain ⟨g,l,t,h,st⟩:=s
 obtain ⟨_,hr⟩:=hr
 dsimp only at hl hr
 obtain ⟨i0,hi,hz0,hz1,hz2⟩:=info_parts Tryz.infoInt
 go_enter Tryz.func73,Tryz.ntmps73
 go_wp2
 go_loopw [5,6] (fun v i wr=>∃ k:Nat,k≤l.length∧i=.int .i64 k∧OwnI (w.heap.size+1) wr v (othersL who (l.take k))∧Below (w.heap.size+1) (w.alloc (.cells #[.int .i64 g,.slice a l.length cap,.int .i64 t,.int .i64 h,.bool st] 35)) wr) (fun _ i _=>l.length - (intOf i).toNat)
 case atStart=>exact ⟨0,by omega,rfl,⟨rfl,.inl ⟨rfl,rfl⟩⟩,Below.refl _ _⟩
 case round =>
  obtain ⟨k,hk,rfl,hown,hb⟩:=hrel
  have HOWN:=Lib.hid hown
  have HBLK:=Lib.hid hown.blk
  clear hown
  have hs:=bsz hb
  obtain ⟨⟨e0,e1,e2,e3,e4⟩,f0,f1,f2,f3,f4⟩:=box5 hb (b:=w.heap.size) (by omega) (heap_alloc_new _ _)
  have hol:=others_len who l k
  by_cases hlt:k<l.length
  ·obtain ⟨b,o,rfl,hbs,h1,h2⟩:=hr k hlt
   have c1:=((bover hb (by omega)).cell (p:=⟨b,o+k*2,none⟩) hbs).trans h1
   have c2:=((bover hb (by omega)).cell (p:=⟨b,o+k*2+1,none⟩) hbs).trans h2
   clear hr h1 h2
   rcases (by omega:l[k].1=who∨l[k].1≠who) with he | he
   ·have heb:(l[k].1 != who)=false:=by simp [he]
    have HE:=Lib.hid (others_hit who l k hlt he)
    clear he
    go_wp2
    go_roundw
    case rel=>exact ⟨k+1,by omega,by go_num,by rw [HE.out]; exact HOWN.out,hb⟩
    case measure=>simp [intOf]; omega
   ·have heb:(l[k].1 != who)=true:=by simp [he]
    have HE:=Lib.hid (others_miss who l k hlt he)
    clear he
    go_wp2_with (at_builtin; refine wpList_append_own _ rfl _ _ 65 rfl (w.heap.size+1) 3 i0 (.int .i64 0) 1 8 Tryz.underlying65 hi hz0 hz1 hz2 rfl (by decide) _ _ _ rfl (HOWN.out.alloc _) ⟨wr.heap.size,0,none⟩ 1 1 [.int .i64 l[k].1] rfl rfl ?c1 ?c2 ?c3 ?c4 ?c5 ?_)
    case c1 =>
     intro j u hj
     match j,hj with
     | 0,hj=>simp at hj; subst hj; simp [Addr.add]
    case c2=>intro u hu; simp at hu; subst hu; rfl
    case c3=>unfold maxLen; omega
    case c4=>omega
    case c5=>simp; omega
    intro v' w1 hown1 hg1 _
    have hb1:Below (w.heap.size+1) (w.alloc (.cells #[.int .i64 g,.slice (some ⟨b,o,none⟩) l.length cap,.int .i64 t,.int .i64 h,.bool st] 35)) w1:=(hb.alloc (by omega) _).grown hg1 (by simp; omega) HBLK.out
    have HO1:=Lib.hid hown1
    clear hown1 hg1
    go_wp2
    go_roundw
    case rel=>exact ⟨k+1,by omega,by go_num,by rw [HE.out]; simpa [OwnI] using HO1.out,hb1⟩
    case measure=>simp [intOf]; omega
  ·go_wp2
   go_ret
   exact ⟨_,rfl,by rw [← List.take_of_length_le (show l.length≤k by omega)]; exact HOWN.out.mono (by omega),bover hb (by omega)⟩
theorem OwnI.keeps {S:Nat→Prop} {B:Nat} {w w':World} {v:Value} {l:List Int} (h:OwnI B w v l) (k:Keeps S w w') (hS:∀ k,S k→k<B):OwnI B w' v l:=by
 obtain ⟨h1,h2⟩:=h
 refine ⟨h1,?_⟩
 rcases h2 with h2 | ⟨g,cap,cur,e1,e2,e3,e4⟩
 ·exact .inl h2
 ·refine .inr ⟨g,cap,cur,e1,e2,?_,e4⟩
  rw [k.block g (fun e=>by have:=hS g e; omega) (Array.getElem?_eq_some_iff.1 e3).1]
  exact e3
theorem OwnI.ints {B:Nat} {w:World} {a:Option Addr} {l:List Int} {c:Nat} (h:OwnI B w (.slice a l.length c) l):Ints w.heap.size w a l:=by
 obtain ⟨a',c',e,hi⟩:=h.shape
 cases e; exact hi
def HiI (B:Nat) (w:World) (a:Option Addr) (l:List Int):Prop :=
 ∀ i (h:i<l.length),∃ b o,a=some ⟨b,o,none⟩∧B≤b∧b<w.heap.size∧w.cell? ⟨b,o+i,none⟩=some (.int .i64 l[i])
theorem HiI.ints {B:Nat} {w:World} {a:Option Addr} {l:List Int} (h:HiI B w a l):Ints w.heap.size w a l:=by
 intro i hi
 obtain ⟨b,o,e,_,h2,h3⟩:=h i hi
 exact ⟨b,o,e,h2,h3⟩
theorem HiI.keeps {S:Nat→Prop} {B:Nat} {w w':World} {a:Option Addr} {l:List Int} (h:HiI B w a l) (k:Keeps S w w') (hS:∀ k,S k→k<B):HiI B w' a l:=by
 intro i hi
 obtain ⟨b,o,e,h1,h2,h3⟩:=h i hi
 exact ⟨b,o,e,h1,Nat.lt_of_lt_of_le h2 k.size,by rw [k.cell (fun x=>by have:=hS _ x; omega) h2]; exact h3⟩
theorem HiI.mono {B C:Nat} {w:World} {a:Option Addr} {l:List Int} (h:HiI B w a l) (hC:C≤B):HiI C w a l:=by
 intro i hi
 obtain ⟨b,o,e,h1,h2⟩:=h i hi
 exact ⟨b,o,e,by omega,h2⟩
theorem HiI.nil (B:Nat) (w:World) (a:Option Addr):HiI B w a []:=fun i hi=>absurd hi (by simp)
theorem HiI.tail {B:Nat} {w:World} {b o:Nat} {x:Int} {t:List Int} (h:HiI B w (some ⟨b,o,none⟩) (x :: t)):HiI B w (some ⟨b,o+1,none⟩) t:=by
 intro i hi
 obtain ⟨b',o',e,h0,h1,c1⟩:=h (i+1) (by simp; omega)
 obtain ⟨rfl,rfl⟩:b=b'∧o=o':=by simpa using e
 exact ⟨b,o+1,rfl,h0,h1,by rw [show o+1+i=o+(i+1) from by omega,c1]; rfl⟩
theorem OwnI.hi {B:Nat} {w:World} {a:Option Addr} {l:List Int} {n c:Nat} (h:OwnI B w (.slice a n c) l):HiI B w a l:=by
 obtain ⟨h1,h2⟩:=h
 rcases h2 with ⟨e,hn⟩ | ⟨g,cap,cur,e,hg,hh,hc,hm,hs,ht⟩
 ·obtain rfl:=List.length_eq_zero_iff.1 hn
  exact HiI.nil _ _ _
 ·cases e
  intro i hi
  have hlt:g<w.heap.size:=(Array.getElem?_eq_some_iff.1 hh).1
  refine ⟨g,0,rfl,hg,hlt,?_⟩
  have hcell:w.cell? ⟨g,0+i,none⟩=(l.map (Value.int .i64))[i]?:=by
   rw [← ht,List.getElem?_take_of_lt (by omega)]
   simp [World.cell?,hh]
  rw [hcell]; simp [hi]
end Go.Proofs.YtajegiifabfcjaaGreatDoor
namespace Go.Proofs.YtajegiifabfcjaaGreatDoor
open Go.RowKit Go.Sort
theorem newer_any (a b:Cel) (w:World):Calls Tryz.prog 19 #[a.v,b.v] w fun e w'=>e=.returned (.bool (newerB a b))∧Below w.heap.size w w':=by
 obtain ⟨ae,an,ad⟩:=a
 obtain ⟨be,bn,bd⟩:=b
 by_cases h1:be<ae
 ·have HN:=Lib.hid (show newerB ⟨ae,an,ad⟩ ⟨be,bn,bd⟩=true from by simp [newerB,h1])
  go_enter Tryz.func19,Tryz.ntmps19
  go_wp2
  go_ret
  exact ⟨ret_bool HN.out.symm,(bal w _).alloc (by simp) _⟩
 ·by_cases h2:ae=be
  ·have e2:(ae == be)=true:=by simp [h2]
   have HN:=Lib.hid (show newerB ⟨ae,an,ad⟩ ⟨be,bn,bd⟩=decide (bn<an) from by simp [newerB,h2])
   clear h2
   go_enter Tryz.func19,Tryz.ntmps19
   go_wp2
   go_ret
   exact ⟨ret_bool HN.out.symm,(bal w _).alloc (by simp) _⟩
  ·have e2:(ae == be)=false:=by simp [h2]
   have HN:=Lib.hid (show newerB ⟨ae,an,ad⟩ ⟨be,bn,bd⟩=false from by simp [newerB,h1,h2])
   clear h2
   go_enter Tryz.func19,Tryz.ntmps19
   go_wp2
   go_ret
   exact ⟨ret_bool HN.out.symm,(bal w _).alloc (by simp) _⟩
def Rp.get (r:Rp) (k:Nat):Cel:=r.cells.getD k Cel.zero
def Rp.admitC (r:Rp) (k:Nat) (c:Cel):Rp:=if c.e=r.floor∧newerB c (r.get k)=true then ⟨r.floor,r.cells.set k c⟩ else r
theorem Rp.admit_len (r:Rp) (k:Nat) (c:Cel):(r.admitC k c).cells.length=r.cells.length:=by
 unfold Rp.admitC; split <;> simp
theorem Rp.get_at {r:Rp} {k:Nat} (h:k<r.cells.length):r.get k=r.cells[k]:=by simp [Rp.get,h]
def Rp.fence (r:Rp) (epoch:Int):Rp:=if r.floor=epoch - 1 then ⟨epoch,r.cells⟩ else r
theorem results_row_tmp {P:Program} {fn:Func} {p q:Tmp} {ty:TypeId} (h:fn.results=#[.cell p ty,.tmp q]) (tmps:Array Value) (w:World) (g:Nat) (t:TypeId) (cs:Array Value) (fr:Nat × Nat) (d:TypeDesc) (v:Value)
  (hp:tmps.getD p undef=.pointer (some ⟨g,0,none⟩)) (hv:tmps.getD q undef=v) (hg:w.heap[g]?=some (.cells cs t fr))
  (hu:P.underlying ty=some d) (hd:(match d with | .struct _ | .array _ _=>true | _=>false)=true) (hi:(P.info? ty).map (·.size)=some cs.size) :
  (results fn tmps).run P w=.ok (.tuple #[.agg cs,v]) w:=by
 have hp':tmps[p]?.getD undef=.pointer (some ⟨g,0,none⟩):=by simpa using hp
 have hv':tmps[q]?.getD undef=v:=by simpa using hv
 simp [results,h,hp',hv',asAddr,run_loadVar_row w g t ty cs fr d hg hu hd hi]
theorem rp_zero_arr:Rp.zero.arr=#[.int .i64 0,.int .i64 0,.int .i64 0,.string ⟨#[]⟩,.int .i64 0,.int .i64 0,.string ⟨#[]⟩,.int .i64 0,.int .i64 0,.string ⟨#[]⟩,.int .i64 0,.int .i64 0,.string ⟨#[]⟩,.int .i64 0,.int .i64 0,.string ⟨#[]⟩,.int .i64 0,.int .i64 0,.string ⟨#[]⟩,.int .i64 0,.int .i64 0,.string ⟨#[]⟩,.int .i64 0,.int .i64 0,.string ⟨#[]⟩]:=rfl
theorem Keeps.setRow {S:Nat→Prop} {a w:World} (h:Keeps S a w) {g:Nat} (hg:S g) (cs:Array Value):Keeps S a (w.setRow g cs) :=
 h.trans ⟨rfl,rfl,rfl,by simp,fun k hk _=>setRow_other w g k cs (fun e=>hk (e▸hg))⟩
theorem bal3a (w:World) (o p q:Obj):Below w.heap.size w (((w.alloc o).alloc p).alloc q):=((bal w o).alloc (by simp) p).alloc (by simp; omega) q
theorem cell_box {w:World} {b:Nat} {c:Cel} {T:TypeId} (h:w.heap[b]?=some (.cells #[.int .i64 c.e,.int .i64 c.n,.string c.d] T (0,0))):w.cell? ⟨b,0,none⟩=some (.int .i64 c.e)∧w.cell? ⟨b,1,none⟩=some (.int .i64 c.n)∧w.cell? ⟨b,2,none⟩=some (.string c.d):=by
 simp [World.cell?,h]
theorem rp_cell {w:World} {b k:Nat} {r:Rp} {T:TypeId} (h:w.heap[b]?=some (.cells r.arr T (0,0))) (hk:k<r.cells.length) :
  (w.cell? ⟨b,1+k*3,none⟩=some (.int .i64 r.cells[k].e)∧w.cell? ⟨b,1+k*3+1,none⟩=some (.int .i64 r.cells[k].n)∧w.cell? ⟨b,1+k*3+2,none⟩=some (.string r.cells[k].d)) ∧
  w.frozen? ⟨b,1+k*3,none⟩=false∧w.frozen? ⟨b,1+k*3+1,none⟩=false∧w.frozen? ⟨b,1+k*3+2,none⟩=false:=by
 obtain ⟨h1,h2,h3⟩:=r.at hk
 simp [World.cell?,World.frozen?,h,h1,h2,h3]
theorem rp_floor {w:World} {b:Nat} {r:Rp} {T:TypeId} (h:w.heap[b]?=some (.cells r.arr T (0,0))):w.cell? ⟨b,0,none⟩=some (.int .i64 r.floor)∧w.frozen? ⟨b,0,none⟩=false:=by
 have:=r.at0
 simp [World.cell?,World.frozen?,h,this]
set_option maxRecDepth 100000 in
set_option maxHeartbeats 2000000 in
theorem admit_any (r:Rp) (k:Nat) (c:Cel) (w:World) (hr:r.cells.length=8) (hk:k<8) :
  Calls Tryz.prog 108 #[.agg r.arr,.int .i64 k,c.v] w fun e w'=>e=.returned (.tuple #[.agg (r.admitC k c).arr,.bool (decide (c.e=r.floor))])∧Below w.heap.size w w':=by
 have HR:=Lib.hid hr
 have hz:=Lib.hid (Rp.size hr)
 clear hr
 go_enter Tryz.func108,Tryz.ntmps108
 go_upto_region 1 with fail
 obtain ⟨w3,hw3⟩:∃ w3,w3=((w.alloc (.cells r.arr 56)).alloc (.cells #[.int .i64 c.e,.int .i64 c.n,.string c.d] 30)).alloc (.cells Rp.zero.arr 56):=⟨_,rfl⟩
 rw [rp_zero_arr] at hw3
 rw [← hw3]
 rw [← rp_zero_arr] at hw3
 have HB:=Lib.hid (show Below w.heap.size w w3 from hw3▸bal3a w _ _ _)
 have hs3:w3.heap.size=w.heap.size+1+1+1:=by rw [hw3]; simp
 have HA:=Lib.hid (show w3.heap[w.heap.size]?=some (.cells r.arr 56 (0,0)) from hw3▸(heap3 w _ _ _).1)
 have HC:=Lib.hid (show w3.heap[w.heap.size+1]?=some (.cells #[.int .i64 c.e,.int .i64 c.n,.string c.d] 30 (0,0)) from hw3▸(heap3 w _ _ _).2.1)
 have HZ:=Lib.hid (show w3.heap[w.heap.size+1+1]?=some (.cells Rp.zero.arr 56 (0,0)) from hw3▸(heap3 w _ _ _).2.2)
 have hv0:w.heap.size<w3.heap.size:=by omega
 have hv1:w.heap.size+1<w3.heap.size:=by omega
 have hv2:w.heap.size+1+1<w3.heap.size:=by omega
 clear hw3 hs3
 obtain ⟨c0,c1,c2⟩:=cell_box HC.out
 obtain ⟨f0,-⟩:=rp_floor HA.out
 by_cases he:c.e=r.floor
 ·have eb:(c.e != r.floor)=false:=by simp [he]
  have HE:=Lib.hid he
  clear he
  obtain ⟨⟨r0,r1,r2⟩,-⟩:=rp_cell (k:=k) HA.out (by rw [HR.out]; exact hk)
  have hq:=bregrown (Below.refl w3.heap.size w3)
  have hkr:k<r.cells.length:=by rw [HR.out]; exact hk
  have HKR:=Lib.hid hkr
  obtain ⟨X,hX⟩:∃ X,newerB c r.cells[k]=X:=⟨_,rfl⟩
  have HX:=Lib.hid hX
  have NW:=Lib.hid (fun (w:World)=>newer_any c r.cells[k] w)
  have hk8:decide ((k:Int)<8)=true:=by simpa using (by omega:(k:Int)<8)
  clear hX
  go_upto_region 3 with fail
  go_cut [19] (fun v wx=>v=.bool X∧Below w3.heap.size w3 wx)
  case first =>
   refine wp_region_quiet_below (by kernel_rfl) (by kernel_rfl) ?_
   repeat (go_big_quiet_step (exact Calls.regrown_of (NW.out _)))
   refine wpQuiet_nil ?_
   rintro w' ⟨⟨dq,osq⟩,rfl⟩
   go_wp2_with fail
   go_meet
   exact ⟨by rw [HX.out],below_regrown _ dq osq⟩
  case rest =>
   obtain ⟨rfl,b4⟩:=hcut
   have HB4:=Lib.hid (HB.out.trans (b4.mono HB.out.size))
   have HA4:=Lib.hid ((b4.block _ hv0).trans HA.out)
   have HC4:=Lib.hid ((b4.block _ hv1).trans HC.out)
   have HZ4:=Lib.hid ((b4.block _ hv2).trans HZ.out)
   have hu2:w.heap.size+1+1<wc.heap.size:=Nat.lt_of_lt_of_le hv2 b4.size
   have HG:=Lib.hid (Rp.get_at (r:=r) hkr)
   clear b4 hq c0 c1 c2 f0 r0 r1 r2
   go_upto_if 19 with fail
   go_cut [19] (fun _ wx=>wx.heap[w.heap.size]?=some (.cells (r.admitC k c).arr 56 (0,0))∧Keeps (·=w.heap.size) wc wx)
   case first =>
    cases X
    ·have HM:=Lib.hid (show r.admitC k c=r from if_neg (fun h=>by have h2:=h.2; rw [HG.out] at h2; exact absurd (h2.symm.trans HX.out) (by decide)))
     go_wp2_with fail
     go_meet
     exact ⟨by rw [HM.out]; exact HA4.out,Keeps.refl _ _⟩
    ·have HM:=Lib.hid (show r.admitC k c=⟨r.floor,r.cells.set k c⟩ from if_pos ⟨HE.out,by rw [HG.out]; exact HX.out⟩)
     obtain ⟨c0,c1,c2⟩:=cell_box HC4.out
     obtain ⟨⟨r0,r1,r2⟩,s0,s1,s2⟩:=rp_cell (k:=k) HA4.out hkr
     go_wp2_with fail
     go_meet
     refine ⟨?_,Keeps.setCell (S:=(·=w.heap.size)) (Keeps.setCell (S:=(·=w.heap.size)) (Keeps.setCell (S:=(·=w.heap.size)) (Keeps.refl _ _) rfl _) rfl _) rfl _⟩
     rw [HM.out,← Rp.set r c HKR.out]
     exact block_setCell (block_setCell (block_setCell HA4.out _) _) _
   case rest =>
    obtain ⟨wo,rfl⟩:∃ wo:World,wo=wc:=⟨_,rfl⟩
    obtain ⟨ha5,hk5⟩:=hcut
    have HA5:=Lib.hid ha5
    have HZ5:=Lib.hid ((hk5.block (w.heap.size+1+1) (by omega) hu2).trans HZ4.out)
    have HB5:=Lib.hid (HB4.out.trans (hk5.below HB4.out.size (fun m hm=>by omega)))
    have hz5:=Lib.hid (Rp.size (r:=r.admitC k c) (by rw [Rp.admit_len,HR.out]))
    clear ha5 hk5
    go_wp2_with (first | (refine wpList_load_row rfl 56 _ rfl w.heap.size rfl 56 (r.admitC k c).arr (0,0) _ HA5.out rp_row.1 rfl (by rw [rp_row.2.1,hz5.out]) ?_) | (refine wpList_store_row rfl 56 _ _ rfl (w.heap.size+1+1) (r.admitC k c).arr rfl rfl 56 Rp.zero.arr HZ5.out (by rw [rp_row.2.1,hz5.out]) (by rw [hz5.out]; rfl) (Rp.one _) ?_))
    refine bodyPost_ret (v:=.tuple #[.agg (r.admitC k c).arr,.bool true]) (results_row_tmp Tryz.results108 _ _ (w.heap.size+1+1) 56 (r.admitC k c).arr (0,0) _ _ rfl rfl (setRow_heap _ _ _ _ _ _ HZ5.out) rp_row.1 rfl (by rw [rp_row.2.1,hz5.out])) rfl ?_
    exact ⟨by rw [decide_eq_true HE.out],HB5.out.trans (((Keeps.refl (·=w.heap.size+1+1) wo).setRow rfl _).below HB5.out.size (fun m hm=>by omega))⟩
 ·have eb:(c.e != r.floor)=true:=by simp [he]
  have HE:=Lib.hid he
  clear he
  go_wp2_with (first | (refine wpList_load_row rfl 56 _ rfl w.heap.size rfl 56 r.arr (0,0) _ HA.out rp_row.1 rfl (by rw [rp_row.2.1,hz.out]) ?_) | (refine wpList_store_row rfl 56 _ _ rfl (w.heap.size+1+1) r.arr rfl rfl 56 Rp.zero.arr HZ.out (by rw [rp_row.2.1,hz.out]) (by rw [hz.out]; rfl) r.one ?_))
  refine bodyPost_ret (v:=.tuple #[.agg r.arr,.bool false]) (results_row_tmp Tryz.results108 _ _ (w.heap.size+1+1) 56 r.arr (0,0) _ _ rfl rfl (setRow_heap _ _ _ _ _ _ HZ.out) rp_row.1 rfl (by rw [rp_row.2.1,hz.out])) rfl ?_
  refine ⟨?_,HB.out.trans (((Keeps.refl (·=w.heap.size+1+1) w3).setRow rfl _).below HB.out.size (fun m hm=>by omega))⟩
  rw [show r.admitC k c=r from if_neg (fun h=>HE.out h.1),decide_eq_false HE.out]
def RowIn (w:World) (N n:Nat) (T:TypeId):Prop:=∃ old,w.heap[N]?=some (.cells old T (0,0))∧old.size=n
theorem RowIn.setRow {w:World} {N n:Nat} {T:TypeId} (h:RowIn w N n T) {cs:Array Value} (hs:cs.size=n):RowIn (w.setRow N cs) N n T:=by
 obtain ⟨old,h1,h2⟩:=h
 exact ⟨cs,setRow_heap w N old cs T (0,0) h1,hs⟩
theorem step_store_row {P:Program} {ops:Array Oper} {o:Oper} {a:Act} {w:World} {K:Act→World→Prop} {Q:Exit→Act→World→Prop} {E:Prop} (hgd:o.guard=none) (ty:TypeId) (x y:Operand) (ho:o.op=.store ty x y)
  (g:Nat) (cells:Array Value) (hx:a.eval x=.pointer (some ⟨g,0,none⟩)) (hy:a.eval y=.agg cells)
  (t:TypeId) (old:Array Value) (hg:w.heap[g]?=some (.cells old t (0,0))) (hi:(P.info? ty).map (·.size)=some cells.size)
  (hold:old.size=cells.size) (h1:cells.all (·.oneCell')=true)
  (h:K (a.put o.dst undef) (w.setRow g cells)):if Region.wanted o (yielded ops a.tmps)=true then Oper.wp P o a w K Q else E:=by
 have hw:Region.wanted o (yielded ops a.tmps)=true:=by simp [Region.wanted,hgd]
 rw [if_pos hw]
 exact wp_store_row ty x y ho g cells hx hy t old hg hi hold h1 h
theorem range_of {w:World} {N:Nat} {cs:Array Value} {T:TypeId} (h:w.heap[N]?=some (.cells cs T (0,0))):w.rangeAt N 0 cs.toList:=by
 intro j v hj
 rw [cell_of_row w N (0+j) cs T (0,0) h,Nat.zero_add]
 simpa using hj
theorem rp_lit {Y:Rp} (h:Y.cells.length=8):∃ (f:Int) (d0 d1 d2 d3 d4 d5 d6 d7:Cel),Y=⟨f,[d0,d1,d2,d3,d4,d5,d6,d7]⟩:=by
 obtain ⟨f,l⟩:=Y
 match l,h with
 | [d0,d1,d2,d3,d4,d5,d6,d7],_=>exact ⟨f,d0,d1,d2,d3,d4,d5,d6,d7,rfl⟩
theorem region_tail1 {P:Program} {id:Nat} {Q:Exit→Act→World→Prop} {a:Act} {w:World} {l:List Oper} (n:Nat) (hm:P.follows .mixedOrders=true) (hB:Region.lexTailB .any l.toArray n=true)
  (h:∀ wd,Below w.heap.size w wd→wd.heap=w.heap→wpStill P l.toArray wd (fun a'=>wpList P l.toArray Q (l.drop n) a' wd) (l.take n) a):(Code.region id l.toArray true).wp P Q a w :=
 wp_region_still_tail n hm hB (h w.drew (Below.refl _ _).drew rfl)
theorem yieldsIf_load_row {P:Program} {ops:Array Oper} {S:World→Prop} {op:Oper} {a:Act} (hw:Region.wanted op (yielded ops a.tmps)=true) (ty:TypeId) (x:Operand) (ho:op.op=.load ty x)
  (g:Nat) (hx:a.eval x=.pointer (some ⟨g,0,none⟩)) (t:TypeId) (cs:Array Value) (fr:Nat × Nat) (d:TypeDesc) (hg:∀ w,S w→w.heap[g]?=some (.cells cs t fr))
  (hu:P.underlying ty=some d) (hd:(match d with | .struct _ | .array _ _=>true | _=>false)=true) (hi:(P.info? ty).map (·.size)=some cs.size):YieldsIf P ops S op (.agg cs) a :=
 .inl ⟨hw,fun w hC=>by
  unfold execOp
  simp only [ho,hx,Instr.loadAt,Instr.sureAddr,Sem.run_bind,Sem.run_pure,Result.andThen_ok,run_loadVar_row w g t ty cs fr d (hg w hC) hu hd hi]⟩
set_option maxRecDepth 100000 in
set_option maxHeartbeats 2000000 in
theorem fence_any (r:Rp) (epoch:Int) (w:World) (hr:r.cells.length=8) (he:-4611686018427387904≤epoch∧epoch≤4611686018427387904) :
  Calls Tryz.prog 125 #[.agg r.arr,.int .i64 epoch] w fun e w'=>e=.returned (.tuple #[.agg (r.fence epoch).arr,.bool ((r.fence epoch).floor == epoch)])∧Below w.heap.size w w':=by
 have hz:=Lib.hid (Rp.size (r:=r.fence epoch) (by unfold Rp.fence; split <;> exact hr))
 have q1:IntKind.i64.wrap (epoch - 1)=epoch - 1:=IntWalk.i64_in _ (by omega)
 clear hr
 go_enter Tryz.func125,Tryz.ntmps125
 go_upto_region 1 with fail
 obtain ⟨w3,hw3⟩:∃ w3,w3=(w.alloc (.cells r.arr 56)).alloc (.cells Rp.zero.arr 56):=⟨_,rfl⟩
 rw [rp_zero_arr] at hw3
 rw [← hw3]
 rw [← rp_zero_arr] at hw3
 have HB:=Lib.hid (show Below w.heap.size w w3 from hw3▸(bal w _).alloc (by simp) _)
 have hs3:w3.heap.size=w.heap.size+1+1:=by rw [hw3]; simp
 have HA:=Lib.hid (show w3.heap[w.heap.size]?=some (.cells r.arr 56 (0,0)) from hw3▸heap_alloc2_old w _ _)
 have HZ:=Lib.hid (show w3.heap[w.heap.size+1]?=some (.cells Rp.zero.arr 56 (0,0)) from hw3▸heap_alloc2_new w _ _)
 have hv0:w.heap.size<w3.heap.size:=by omega
 have hv1:w.heap.size+1<w3.heap.size:=by omega
 clear hw3 hs3
 obtain ⟨f0,g0⟩:=rp_floor HA.out
 go_upto_if 10 with fail
 go_cut [10] (fun _ wx=>wx.heap[w.heap.size]?=some (.cells (r.fence epoch).arr 56 (0,0))∧Keeps (·=w.heap.size) w3 wx)
 case first =>
  by_cases hf:r.floor=epoch - 1
  ·have eb:(r.floor == epoch - 1)=true:=by simp [hf]
   have HF:=Lib.hid (show r.fence epoch=⟨epoch,r.cells⟩ from if_pos hf)
   clear hf
   go_wp2_with fail
   go_meet
   exact ⟨by rw [HF.out,← Rp.setFloor]; exact block_setCell HA.out _,Keeps.setCell (S:=(·=w.heap.size)) (Keeps.refl _ _) rfl _⟩
  ·have eb:(r.floor == epoch - 1)=false:=by simp [hf]
   have HF:=Lib.hid (show r.fence epoch=r from if_neg hf)
   clear hf
   go_wp2_with fail
   go_meet
   exact ⟨by rw [HF.out]; exact HA.out,Keeps.refl _ _⟩
 case rest =>
  obtain ⟨ha5,hk5⟩:=hcut
  have HB5:=Lib.hid (HB.out.trans (hk5.below HB.out.size (fun m hm=>by omega)))
  have HA5:=Lib.hid ha5
  have HZ5:=Lib.hid ((hk5.block (w.heap.size+1) (by omega) hv1).trans HZ.out)
  clear ha5 hk5 f0 g0
  obtain ⟨Y,hY⟩:∃ Y,r.fence epoch=Y:=⟨_,rfl⟩
  rw [hY] at HA5 hz
  have HY:=Lib.hid hY
  clear hY
  go_wp2_with fail
  obtain ⟨S,hS⟩:∃ S:World→Prop,S=fun w'=>w'.heap[w.heap.size]?=some (.cells Y.arr 56 (0,0))∧RowIn w' (w.heap.size+1) 25 56:=⟨_,rfl⟩
  replace hS:=Lib.hid hS
  have S1:∀ w',S w'→w'.heap[w.heap.size]?=some (.cells Y.arr 56 (0,0)):=fun w' h=>by rw [hS.out] at h; exact h.1
  have S3:∀ w',S w'→RowIn w' (w.heap.size+1) 25 56:=fun w' h=>by rw [hS.out] at h; exact h.2
  have S0:S wc.drew:=by rw [hS.out]; exact ⟨HA5.out,⟨Rp.zero.arr,HZ5.out,rfl⟩⟩
  have S4:∀ w',S w'→S (w'.setRow (w.heap.size+1) Y.arr):=fun w' h=>by
   rw [hS.out] at h ⊢
   exact ⟨(setRow_other _ _ _ _ (by omega)).trans h.1,h.2.setRow hz.out⟩
  refine wp_region_held_drew (S:=S) (by kernel_rfl) S0 (fun hHeld=>?_)
  refine wt 0 (.agg Y.arr) hHeld ?_ (hy:=yieldsIf_load_row (by rfl) 56 _ rfl w.heap.size rfl 56 Y.arr (0,0) _ S1 rp_row.1 rfl (by rw [rp_row.2.1,hz.out]))
  go_simp
  refine wt 1 (.pointer (some ⟨w.heap.size,0,none⟩)) hHeld ?_
  go_simp
  refine wt 2 (.int .i64 Y.floor) hHeld ?_ (hy:=Or.inl ⟨by rfl,fun w' hSw=>by have hc:=(rp_floor (S1 w' hSw)).1; go_simp⟩)
  go_simp
  refine wt 3 (.int .i64 epoch) hHeld ?_
  go_simp
  refine wt 4 (.bool (Y.floor == epoch)) hHeld ?_
  go_simp
  refine wpAnyH_ready (rs:=[5]) (by kernel_rfl) (by simp) ?_
  refine AllReadyH.cons (o:=_) rfl (fun K hK=>?_) AllReadyH.nil
  obtain ⟨old,ho1,ho2⟩:=S3 _ hHeld
  refine step_store_row rfl 56 _ _ rfl (w.heap.size+1) Y.arr rfl rfl 56 old ho1 (by rw [rp_row.2.1,hz.out]) (by rw [ho2,hz.out]) (Rp.one _) ?_
  refine hK.out _ _ (S4 _ hHeld) (fun hHeld2=>?_)
  clear hK K
  go_simp
  refine wpAnyH_ready (rs:=[6]) (by kernel_rfl) (by simp) ?_
  refine AllReadyH.cons (o:=_) rfl (fun K hK=>?_) AllReadyH.nil
  go_simp
  refine hK.out _ _ hHeld2 (fun hHeld3=>?_)
  clear hK K
  refine wpAnyH_done (by kernel_rfl) ?_ _
  go_wp2
  have hb:Below w.heap.size w (wc.drew.setRow (w.heap.size+1) Y.arr):=HB5.out.trans ((((Keeps.refl (·=w.heap.size+1) wc).drew).setRow rfl _).below HB5.out.size (fun m hm=>by omega))
  refine bodyPost_ret (v:=.tuple #[.agg Y.arr,.bool (Y.floor == epoch)]) (results_row_tmp Tryz.results125 _ _ (w.heap.size+1) 56 Y.arr (0,0) _ _ rfl rfl (setRow_heap _ _ _ _ _ _ ho1) rp_row.1 rfl (by rw [rp_row.2.1,hz.out])) rfl ?_
  exact ⟨by rw [HY.out],hb⟩
def Rp.start:Rp:=⟨1,List.replicate 8 Cel.zero⟩
theorem results_row1 {P:Program} {fn:Func} {p:Tmp} {ty:TypeId} (h:fn.results=#[.cell p ty]) (tmps:Array Value) (w:World) (g:Nat) (t:TypeId) (cs:Array Value) (fr:Nat × Nat) (d:TypeDesc)
  (hp:tmps.getD p undef=.pointer (some ⟨g,0,none⟩)) (hg:w.heap[g]?=some (.cells cs t fr))
  (hu:P.underlying ty=some d) (hd:(match d with | .struct _ | .array _ _=>true | _=>false)=true) (hi:(P.info? ty).map (·.size)=some cs.size) :
  (results fn tmps).run P w=.ok (.agg cs) w:=by
 have hp':tmps[p]?.getD undef=.pointer (some ⟨g,0,none⟩):=by simpa using hp
 simp [results,h,hp',asAddr,run_loadVar_row w g t ty cs fr d hg hu hd hi]
set_option maxRecDepth 100000 in
theorem new_any (w:World):Calls Tryz.prog 88 #[] w fun e w'=>e=.returned (.agg Rp.start.arr)∧Below w.heap.size w w':=by
 go_enter Tryz.func88,Tryz.ntmps88
 go_upto_region 1 with fail
 obtain ⟨w1,hw1⟩:∃ w1,w1=w.alloc (.cells Rp.zero.arr 56):=⟨_,rfl⟩
 rw [rp_zero_arr] at hw1
 rw [← hw1]
 rw [← rp_zero_arr] at hw1
 have HB:=Lib.hid (show Below w.heap.size w w1 from hw1▸bal w _)
 have HZ:=Lib.hid (show w1.heap[w.heap.size]?=some (.cells Rp.zero.arr 56 (0,0)) from hw1▸heap_alloc_new w _)
 clear hw1
 go_wp2_with (refine wpList_store_row rfl 56 _ _ rfl w.heap.size Rp.start.arr rfl rfl 56 Rp.zero.arr HZ.out (by rw [rp_row.2.1]; rfl) (by rfl) (Rp.one _) ?_)
 refine bodyPost_ret (v:=.agg Rp.start.arr) (results_row1 Tryz.results88 _ _ w.heap.size 56 Rp.start.arr (0,0) _ rfl (setRow_heap _ _ _ _ _ _ HZ.out) rp_row.1 rfl (by rw [rp_row.2.1]; rfl)) rfl ?_
 exact ⟨rfl,HB.out.trans (((Keeps.refl (·=w.heap.size) w1).setRow rfl _).below HB.out.size (fun m hm=>by omega))⟩
theorem admit_x (r:Rp) (i:Int) (k:Nat) (hi:i=(k:Int)) (c:Cel) (w:World) (hr:r.cells.length=8) (hk:k<8) (m:Rp) (hm:r.admitC k c=m) (b:Bool) (hb:decide (c.e=r.floor)=b) :
  Calls Tryz.prog 108 #[.agg r.arr,.int .i64 i,c.v] w fun e w'=>e=.returned (.tuple #[.agg m.arr,.bool b])∧Below w.heap.size w w':=by
 subst hi hm hb; exact admit_any r k c w hr hk
theorem bel_row (wx:World) (z cs:Array Value) (T:TypeId):Below wx.heap.size wx ((wx.alloc (.cells z T)).setRow wx.heap.size cs) :=
 (bal wx _).trans (((Keeps.refl (·=wx.heap.size) (wx.alloc (.cells z T))).setRow rfl _).below (bal wx _).size (fun m hm=>by omega))
end Go.Proofs.YtajegiifabfcjaaGreatDoor
namespace Go.Proofs.YtajegiifabfcjaaGreatDoor
open Go.ChangeShapes Go.WideShapes Go.ChangeAt Go.RowKit Go.Deep
theorem own:ownKnob Tryz.prog.godebug=none:=by kernel_rfl
theorem laidOut:laidOutB Tryz.prog=true:=by kernel_rfl
section
variable {H:Type} {enc:TypeId × Value→H} {P:Program}
theorem trodAll_below (hl:laidOutB P=true) {W W':World} (hb:Below W.heap.size W W') :
  ∀ {ts:List TypeId} {vs:List Value} {ds:List (DataW H)} {ps:List MemPlace},(∀ t∈ts,P.readableRec t=true∧t<P.types.size)→(∀ x∈ps,x.block<W.heap.size) →
   DataW.TrodAll enc P W 0 (fun _=>true) true ts vs ds ps→DataW.TrodAll enc P W' 0 (fun b=>decide (b<W.heap.size)) true ts vs ds ps
 | [],[],[],_,_,_,h=>h
 | t :: ts,v :: vs,d :: ds,ps,ht,hlt,h=>by
  obtain ⟨p,q,h1,h2,rfl⟩:=h
  exact ⟨p,q,Below.trod hl (ht t (by simp)).1 (ht t (by simp)).2 h1 hb (fun x hx=>hlt x (by simp [hx])),trodAll_below hl hb (fun t' h'=>ht t' (by simp [h'])) (fun x hx=>hlt x (by simp [hx])) h2,rfl⟩
 | [],_ :: _,_,_,_,_,h=>h.elim
 | [],[],_ :: _,_,_,_,h=>h.elim
 | _ :: _,[],_,_,_,_,h=>h.elim
 | _ :: _,_ :: _,[],_,_,_,h=>h.elim
theorem post_true {f:Func} {s:ChangeSpec} {W W':World} {args:Array Value} {ds gs:List (DataW H)} {before:List MemPlace} {tb:TypeId} (hl:laidOutB P=true)
  (hW:DataW.Whole enc P f.params.toList s.vars false W args.toList ds gs before) (hvars:s.vars=[]) (hres:f.resultTypes=#[tb]) (htb:P.underlying tb=some .bool)
  (hts:∀ t∈f.params.toList,P.readableRec t=true∧t<P.types.size)
  (hfn:s.fn H (ds ++ gs)={ results:=[.lit (.bool true)],args:=ds }) (hb:Below W.heap.size W W') :
  s.post enc P f false true false false W args (.bool true) W':=by
 have hlt:=hW.lt
 have hW':=hW
 obtain ⟨p,q,hA,hV,rfl,hfz,hnd⟩:=hW
 rw [hvars] at hV
 obtain ⟨rfl,rfl⟩:=trodVars_none hV
 refine ⟨ds,[],p ++ [],[],p,[],hW',?_,?_,?_,hb.frame _,fun h=>by cases h⟩
 ·rw [hfn,hres]
  exact trodAll_cons_mk (shut_bool htb true) trodAll_mk0
 ·rw [hfn]
  exact trodAll_below hl hb hts (fun x hx=>by simpa using hlt x (by simp [hx])) hA
 ·rw [hvars,hfn]
  rfl
theorem and_mk {a b:Bool} (h1:a=true) (h2:b=true):(a && b)=true:=by rw [h1,h2]; rfl
theorem len2 {α:Type} {l:List α} (h:l.length=2):∃ a b,l=[a,b]:=by
 match l,h with
 | [a,b],_=>exact ⟨a,b,rfl⟩
theorem len5 {α:Type} {l:List α} (h:l.length=5):∃ a b c d e,l=[a,b,c,d,e]:=by
 match l,h with
 | [a,b,c,d,e],_=>exact ⟨a,b,c,d,e,rfl⟩
end
section
variable {H:Type} {enc:TypeId × Value→H} {w:World} {base:Nat}
theorem pairs_list (w:World) (a:Addr):∀ n,(∀ i,i<n→∃ u v:Int,w.cell? (a.add (i*2))=some (.int .i64 u)∧w.cell? (a.add (i*2+1))=some (.int .i64 v)) →
  ∃ l:List (Int × Int),l.length=n∧∀ i (h:i<l.length),w.cell? (a.add (i*2))=some (.int .i64 (l[i]).1)∧w.cell? (a.add (i*2+1))=some (.int .i64 (l[i]).2)
 | 0,_=>⟨[],rfl,fun i h=>absurd h (by simp)⟩
 | k+1,key=>by
  obtain ⟨l,hl,hl2⟩:=pairs_list w a k (fun i hi=>key i (by omega))
  obtain ⟨u,v,hu,hv⟩:=key k (by omega)
  refine ⟨l ++ [(u,v)],by simp [hl],fun i h=>?_⟩
  by_cases hik:i<l.length
  ·rw [List.getElem_append_left hik]; exact hl2 i hik
  ·have:i=k:=by simp at h; omega
   subst this
   rw [List.getElem_append_right (by omega)]
   simp [hl,hu,hv]
theorem trod_state {fuel:Nat} {cs:List Value} {x:DataW H × List MemPlace} (h:DataW.trod enc Tryz.prog w base (fun _=>true) true fuel 35 cs=some x) :
  ∃ (s:St) (a:Option Addr) (cap:Nat),cs=[.int .i64 s.gen,.slice a s.regs.length cap,.int .i64 s.typ,.int .i64 s.holder,.bool s.stays]∧StR w s a:=by
 obtain ⟨xs,n,_,hx,hcl,hxl,hf⟩:=DataW.trod_struct Tryz.underlying35 h
 have hC:Tryz.prog.cellsOf 35=5:=by kernel_rfl
 have hC3:Tryz.prog.cellsOf 3=1:=by kernel_rfl
 have hC22:Tryz.prog.cellsOf 33=1:=by kernel_rfl
 have hC4:Tryz.prog.cellsOf 4=1:=by kernel_rfl
 rw [hC] at hcl
 obtain ⟨c0,c1,c2,c3,c4,rfl⟩:=len5 hcl
 obtain ⟨y0,y1,y2,y3,y4,rfl⟩:=len5 hxl
 have f0:=hf 0 _ rfl
 have f1:=hf 1 _ rfl
 have f2:=hf 2 _ rfl
 have f3:=hf 3 _ rfl
 have f4:=hf 4 _ rfl
 simp only [List.getElem_toArray,List.getElem_cons_zero,List.getElem_cons_succ,hC3,hC22,hC4,List.drop_zero,List.drop_succ_cons,List.take_succ_cons,List.take_zero,List.getElem?_cons_zero,List.getElem?_cons_succ] at f0 f1 f2 f3 f4
 obtain ⟨i0,e0,_,w0⟩:=DataW.trod_int Tryz.underlying3 f0
 obtain ⟨i2,e2,_,w2⟩:=DataW.trod_int Tryz.underlying3 f2
 obtain ⟨i3,e3,_,w3⟩:=DataW.trod_int Tryz.underlying3 f3
 obtain ⟨b4,e4,_⟩:=DataW.trod_bool Tryz.underlying4 f4
 simp only [List.cons.injEq,and_true] at e0 e2 e3 e4
 subst e0 e2 e3 e4
 rcases open_slice Tryz.underlying33 f1 with ⟨hcs,_⟩ | ⟨a',len',cap',m,n',D,Pl,hcs,hbs,hl,hm,hmm,hx1,hi⟩
 ·simp only [List.cons.injEq,and_true] at hcs
  subst hcs
  exact ⟨⟨i0,[],i2,i3,b4⟩,none,0,rfl,⟨by simp,Pairs.nil _ _ _⟩⟩
 ·simp only [List.cons.injEq,and_true] at hcs
  subst hcs
  have hC27:Tryz.prog.cellsOf 118=2:=by kernel_rfl
  have hml:len'≤m:=by rw [hmm]; split <;> omega
  have key:∀ i,i<len'→∃ u v:Int,w.cell? (a'.add (i*2))=some (.int .i64 u)∧w.cell? (a'.add (i*2+1))=some (.int .i64 v):=by
   intro i hi'
   obtain ⟨cs',hc,ht'⟩:=hi i (by omega)
   rw [hC27] at hc
   obtain ⟨ys,n2,_,_,hyl,hys,hg⟩:=DataW.trod_struct Tryz.underlying118 ht'
   rw [hC27] at hyl
   obtain ⟨d0,d1,rfl⟩:=len2 hyl
   obtain ⟨z0,z1,rfl⟩:=len2 hys
   have g0:=hg 0 _ rfl
   have g1:=hg 1 _ rfl
   simp only [List.getElem_toArray,List.getElem_cons_zero,List.getElem_cons_succ,hC3,List.drop_zero,List.drop_succ_cons,List.take_succ_cons,List.take_zero,List.getElem?_cons_zero,List.getElem?_cons_succ] at g0 g1
   obtain ⟨u,eu,_,_⟩:=DataW.trod_int Tryz.underlying3 g0
   obtain ⟨v,ev,_,_⟩:=DataW.trod_int Tryz.underlying3 g1
   simp only [List.cons.injEq,and_true] at eu ev
   subst eu ev
   obtain ⟨_,_,hat⟩:=World.cells?_some hc
   refine ⟨u,v,?_,?_⟩
   ·have:=hat 0 (by omega); simpa [Go.Deep.add_add] using this
   ·have:=hat 1 (by omega); simpa [Go.Deep.add_add] using this
  have hall:=pairs_list w a' len' key
  obtain ⟨l,hll,hl2⟩:=hall
  subst hll
  refine ⟨⟨i0,l,i2,i3,b4⟩,some a',cap',rfl,⟨by show l.length≤maxLen; omega,fun i (hi':i<l.length)=>?_⟩⟩
  obtain ⟨c1,c2⟩:=hl2 i hi'
  obtain ⟨ab,ao,asp⟩:=a'
  have has:asp=none:=by
   cases asp with
   | none=>rfl
   | some z =>
    exfalso
    have c0:=(hl2 0 (by omega)).1
    simp [Addr.add,World.cell?] at c0
    split at c0 <;> simp at c0
  subst has
  refine ⟨ab,ao,rfl,block_lt_of_cell (hl2 0 (by omega)).1,?_,?_⟩
  ·cases i with
   | zero=>simpa [Addr.add] using c1
   | succ j=>simpa [Addr.add] using c1
  ·simpa [Addr.add,Nat.add_assoc] using c2
end
def RpsAt (w:World) (a:Option Addr) (l:List Rp):Prop :=
 ∀ i (h:i<l.length),l[i].cells.length=8∧∃ b o,a=some ⟨b,o,none⟩∧b<w.heap.size∧w.rangeAt b (o+i*25) l[i].arr.toList
section
variable {H:Type} {enc:TypeId × Value→H} {w:World} {base:Nat}
end
end Go.Proofs.YtajegiifabfcjaaGreatDoor
