/-
  Tk, Model, Text, Rep, OwnP, KeepsP, FaultP, Hold, Type
-/
import Derived.OrdersHeld
import Derived.WalkKit
import Derived.Lib.SplitLaws
import Derived.Lib.AtoiAllCases
import Derived.Lib.ItoaNum
import Derived.Lib.Join
import Derived.Test.YtajegiifabfcjaaGreatDoorProg
import Derived.WalkLawsBesides
import Derived.Lib.Hide
import Derived.Lib.QuietBelow
import Derived.BigQuiet
import Derived.WalkSpells
import Derived.Lib.LazyBuf
namespace Go.Proofs.YtajegiifabfcjaaGreatDoor
theorem wt {P:Program} {ops:Array Oper} {Q:Exit→Act→World→Prop} {md:Region.Mode} {S:World→Prop} (i:Nat) (v:Value) {oi:Oper} {fuel:Nat} {listed:Array Bool} {a:Act} {w:World} (hS:S w) (h:wpAnyH P md ops Q S fuel (listed.setIfInBounds i true) (a.put oi.dst v) w) (hi:ops[i]?=some oi:=by rfl)
  (hb:(Region.noSelect ops && Region.free md ops listed i && (Region.ready md ops listed).contains i)=true:=by kernel_rfl) (hy:YieldsIf P ops S oi v a:=by exact Or.inl ⟨by rfl,fun w' hSw=>by go_simp⟩) (hQ:∀ c a w,Q (.panic c) (a.put oi.dst v) w→Q (.panic c) a w:=by exact fun _ _ _ h=>h):wpAnyH P md ops Q S (fuel+1) listed a w:=by
 simp only [Bool.and_eq_true] at hb
 exact wpAnyH_take hi hb.1.1 hb.1.2 hb.2 hQ hy hS h
end Go.Proofs.YtajegiifabfcjaaGreatDoor
namespace Go.Proofs.YtajegiifabfcjaaGreatDoor
open Go.RowKit
structure St where
 gen:Int
 regs:List (Int × Int)
 typ:Int
 holder:Int
 stays:Bool
def keyOf:List (Int × Int)→Int→Int
 | [],_=>0
 | r :: l,who=>if r.1=who then r.2 else keyOf l who
def typeMay (n:Int):Bool:=decide (n=1∨n=3∨(5≤n∧n≤8))
def allT (n:Int):Bool:=decide (n=7∨n=8)
def knownT (n:Int):Bool:=decide (5≤n)
def writesT (n:Int):Bool:=decide (n=1∨n=5∨n=7)
def holds (s:St) (who:Int):Bool:=if s.typ=7∨s.typ=8 then decide (0<keyOf s.regs who) else decide (0<s.typ∧s.holder=who)
def pmay (s:St) (who:Int) (write:Bool):Bool :=
 if s.typ=0 then true
 else if holds s who=true then true
 else if 5≤s.typ∧0<keyOf s.regs who then true
 else !write && writesT s.typ
def regsFault:Int→List (Int × Int)→Int
 | _,[]=>0
 | prev,r :: l=>if r.1<1∨4<r.1∨r.2<1∨999<r.2 then 1 else if r.1≤prev then 2 else regsFault r.1 l
def stateFault (s:St):Int :=
 if s.gen<0∨1000000000<s.gen then 1
 else if regsFault 0 s.regs≠0 then regsFault 0 s.regs
 else if s.typ=0 then (if s.holder≠0 then 2 else 0)
 else if typeMay s.typ=false then 2
 else if 7≤s.typ then (if s.holder≠0∨s.regs.length=0 then 2 else 0)
 else if keyOf s.regs s.holder=0 then 2 else 0
structure Good (s:St):Prop where
 gen:0≤s.gen∧s.gen≤1000000000
 bounds:∀ r∈s.regs,1≤r.1∧r.1≤4∧1≤r.2∧r.2≤999
 sorted:s.regs.Pairwise (fun a b=>a.1<b.1)
 zero:s.typ=0→s.holder=0
 typ:s.typ≠0→typeMay s.typ=true
 all:7≤s.typ→s.holder=0∧s.regs≠[]
 one:s.typ≠0→s.typ<7→keyOf s.regs s.holder≠0
theorem regsFault_zero:∀ (l:List (Int × Int)) (p:Int),regsFault p l=0 ↔ (∀ r∈l,1≤r.1∧r.1≤4∧1≤r.2∧r.2≤999∧p<r.1)∧l.Pairwise (fun a b=>a.1<b.1)
 | [],p=>by simp [regsFault]
 | r :: l,p=>by
  have ih:=regsFault_zero l r.1
  unfold regsFault
  by_cases h1:r.1<1∨4<r.1∨r.2<1∨999<r.2
  ·rw [if_pos h1]
   constructor
   ·intro h; cases h
   ·intro h; have:=h.1 r (by simp); omega
  ·rw [if_neg h1]
   by_cases h2:r.1≤p
   ·rw [if_pos h2]
    constructor
    ·intro h; cases h
    ·intro h; have:=h.1 r (by simp); omega
   ·rw [if_neg h2,ih,List.pairwise_cons]
    constructor
    ·rintro ⟨ha,hb⟩
     refine ⟨?_,fun b hb'=>(ha b hb').2.2.2.2,hb⟩
     intro x hx
     rcases List.mem_cons.1 hx with rfl | hx
     ·omega
     ·have:=ha x hx; omega
    ·rintro ⟨ha,hb,hc⟩
     refine ⟨fun x hx=>?_,hc⟩
     have:=ha x (by simp [hx])
     have:=hb x hx
     omega
theorem good_iff (s:St):stateFault s=0 ↔ Good s:=by
 unfold stateFault
 constructor
 ·intro h
  by_cases h1:s.gen<0∨1000000000<s.gen
  ·rw [if_pos h1] at h; cases h
  rw [if_neg h1] at h
  by_cases h2:regsFault 0 s.regs≠0
  ·rw [if_pos h2] at h; exact absurd h h2
  rw [if_neg h2] at h
  have h2':=(regsFault_zero s.regs 0).1 (by omega)
  have hb:∀ r∈s.regs,1≤r.1∧r.1≤4∧1≤r.2∧r.2≤999:=fun r hr=>by have:=h2'.1 r hr; omega
  by_cases h3:s.typ=0
  ·rw [if_pos h3] at h
   have h4:s.holder=0:=by
    by_cases h4:s.holder≠0
    ·rw [if_pos h4] at h; cases h
    ·omega
   exact ⟨by omega,hb,h2'.2,fun _=>h4,fun h=>absurd h3 h,fun h=>by omega,fun h=>absurd h3 h⟩
  rw [if_neg h3] at h
  by_cases h4:typeMay s.typ=false
  ·rw [if_pos h4] at h; cases h
  rw [if_neg h4] at h
  by_cases h5:7≤s.typ
  ·rw [if_pos h5] at h
   by_cases h6:s.holder≠0∨s.regs.length=0
   ·rw [if_pos h6] at h; cases h
   ·exact ⟨by omega,hb,h2'.2,fun h=>absurd h h3,fun _=>by simpa using h4,fun _=>⟨by omega,fun e=>h6 (.inr (by rw [e]; rfl))⟩,fun _ h=>by omega⟩
  ·rw [if_neg h5] at h
   by_cases h6:keyOf s.regs s.holder=0
   ·rw [if_pos h6] at h; cases h
   ·exact ⟨by omega,hb,h2'.2,fun h=>absurd h h3,fun _=>by simpa using h4,fun h=>absurd h h5,fun _ _=>h6⟩
 ·intro g
  rw [if_neg (by have:=g.gen; omega),if_neg (by
   have:=(regsFault_zero s.regs 0).2 ⟨fun r hr=>by have:=g.bounds r hr; omega,g.sorted⟩
   omega)]
  by_cases h3:s.typ=0
  ·rw [if_pos h3,if_neg (by have:=g.zero h3; omega)]
  rw [if_neg h3,if_neg (by rw [g.typ h3]; simp)]
  by_cases h5:7≤s.typ
  ·rw [if_pos h5,if_neg]
   have:=g.all h5
   intro h
   rcases h with h | h
   ·exact h this.1
   ·exact this.2 (List.length_eq_zero_iff.1 h)
  ·rw [if_neg h5,if_neg (g.one h3 (by omega))]
end Go.Proofs.YtajegiifabfcjaaGreatDoor
namespace Go.Proofs.YtajegiifabfcjaaGreatDoor
open Go.Lib
abbrev Bs:=List UInt8
def stayW (b:Bool):Bs:=if b then [115,116,97,121,115] else [103,111,101,115]
def regW (r:Int × Int):Bs:=itoa r.1 ++ 58 :: itoa r.2
def stWords (s:St):List Bs:=itoa s.gen :: itoa s.typ :: itoa s.holder :: stayW s.stays :: s.regs.map regW
def stText (s:St):Bs:=Lib.join (stWords s) [32]
def bsB (l:Bs):ByteArray:=⟨l.toArray⟩
theorem bsB_size (l:Bs):(bsB l).size=l.length:=by simp [bsB,ByteArray.size]
theorem bsB_inj {l m:Bs} (h:bsB l=bsB m):l=m:=by
 unfold bsB at h
 injection h with h
 simpa using h
theorem bsB_append (l m:Bs):bsB l ++ bsB m=bsB (l ++ m):=by
 apply ByteArray.ext
 simp [bsB]
theorem digit_byte (d:Nat) (h:d<10):(UInt8.ofNat (48+d)).toNat=48+d:=by
 have:48+d<256:=by omega
 simp [Nat.mod_eq_of_lt this]
theorem decDigits_mem (u:Nat):∀ b∈decDigits u,48≤b.toNat∧b.toNat≤57:=by
 induction u using Nat.strongRecOn with
 | _ u ih =>
  intro b hb
  rw [decDigits] at hb
  split at hb
  ·rename_i h
   simp only [List.mem_singleton] at hb
   subst hb
   rw [digit_byte u h]; omega
  ·rename_i h
   rcases List.mem_append.1 hb with hb | hb
   ·exact ih (u / 10) (by omega) b hb
   ·simp only [List.mem_singleton] at hb
    subst hb
    rw [digit_byte _ (by omega)]; omega
theorem decDigits_ne (u:Nat):decDigits u≠[]:=by
 rw [decDigits]
 split <;> simp
theorem itoa_mem (n:Int):∀ b∈itoa n,b.toNat=45∨(48≤b.toNat∧b.toNat≤57):=by
 intro b hb
 unfold itoa at hb
 split at hb
 ·rcases List.mem_cons.1 hb with rfl | hb
  ·left; rfl
  ·exact .inr (decDigits_mem _ b hb)
 ·exact .inr (decDigits_mem _ b hb)
theorem itoa_no (n:Int) (c:UInt8) (hc:c.toNat<45∨57<c.toNat):c ∉ itoa n:=fun h=>by
 rcases itoa_mem n c h with h | h <;> omega
theorem itoa_blank (n:Int):(32:UInt8) ∉ itoa n:=itoa_no n 32 (by decide)
theorem itoa_colon (n:Int):(58:UInt8) ∉ itoa n:=itoa_no n 58 (by decide)
theorem stayW_blank (b:Bool):(32:UInt8) ∉ stayW b:=by cases b <;> decide
theorem regW_blank (r:Int × Int):(32:UInt8) ∉ regW r:=by
 unfold regW
 intro h
 rcases List.mem_append.1 h with h | h
 ·exact itoa_blank _ h
 ·rcases List.mem_cons.1 h with h | h
  ·exact absurd h (by decide)
  ·exact itoa_blank _ h
theorem stWords_blank (s:St):∀ w∈stWords s,(32:UInt8) ∉ w:=by
 intro w hw
 unfold stWords at hw
 simp only [List.mem_cons,List.mem_map] at hw
 rcases hw with rfl | rfl | rfl | rfl | ⟨r,_,rfl⟩
 ·exact itoa_blank _
 ·exact itoa_blank _
 ·exact itoa_blank _
 ·exact stayW_blank _
 ·exact regW_blank _
theorem parseUint10_append:∀ (l:Bs) (acc u:Nat) (d:Nat),parseUint10 acc l=.ok u→d<10→u*10+d<18446744073709551616→parseUint10 acc (l ++ [UInt8.ofNat (48+d)])=.ok (u*10+d)
 | [],acc,u,d,h,hd,hu=>by
  simp only [parseUint10] at h
  injection h with h
  subst h
  simp only [List.nil_append,parseUint10]
  rw [digit_byte d hd,if_pos (by omega),if_neg (by omega),if_neg (by omega)]
  simp
 | c :: r,acc,u,d,h,hd,hu=>by
  simp only [parseUint10,List.cons_append] at h ⊢
  split at h
  ·rename_i h1
   rw [if_pos h1]
   split at h
   ·cases h
   ·rename_i h2
    rw [if_neg h2]
    split at h
    ·cases h
    ·rename_i h3
     rw [if_neg h3]
     exact parseUint10_append r _ u d h hd hu
  ·cases h
theorem parseUint10_dec (u:Nat):u<18446744073709551616→parseUint10 0 (decDigits u)=.ok u:=by
 induction u using Nat.strongRecOn with
 | _ u ih =>
  intro hu
  rw [decDigits]
  split
  ·rename_i h
   simp only [parseUint10]
   rw [digit_byte u h,if_pos (by omega),if_neg (by omega),if_neg (by omega)]
   simp
  ·rename_i h
   have:=parseUint10_append (decDigits (u / 10)) 0 (u / 10) (u % 10) (ih (u / 10) (by omega) (by omega)) (by omega) (by omega)
   rw [this]
   congr 1
   omega
theorem parseMag_dec (u:Nat) (hu:u<18446744073709551616):parseMag (decDigits u)=.ok u:=by
 unfold parseMag
 rw [if_neg (decDigits_ne u)]
 exact parseUint10_dec u hu
theorem atoiAll_itoa (n:Int) (h0:-9223372036854775808≤n) (h1:n≤9223372036854775807):atoiAll (itoa n)=.ok n:=by
 unfold itoa
 split
 ·rename_i h
  unfold atoiAll
  simp only [show (45:UInt8).toNat=45 from rfl,or_true,if_true]
  rw [parseMag_dec _ (by omega)]
  simp only [not_true_eq_false,false_and,if_false,true_and]
  rw [if_neg (by omega)]
  congr 1
  omega
 ·rename_i h
  obtain ⟨c,r,hcr⟩:∃ c r,decDigits n.toNat=c :: r:=by
   cases hd:decDigits n.toNat with
   | nil=>exact absurd hd (decDigits_ne _)
   | cons c r=>exact ⟨c,r,rfl⟩
  have hc:=decDigits_mem n.toNat c (by rw [hcr]; simp)
  have hp:=parseMag_dec n.toNat (by omega)
  rw [hcr] at hp ⊢
  unfold atoiAll
  simp only [if_neg (show ¬ (c.toNat=43∨c.toNat=45) by omega)]
  rw [hp]
  have e:¬ c.toNat=45:=by omega
  simp only [e,not_false_eq_true,true_and,false_and,if_false]
  rw [if_neg (by omega)]
  congr 1
  omega
def numP (l:Bs):Int:=match atoiAll l with
 | .ok v=>v
 | _=>-1
theorem numP_itoa (n:Int) (h0:-9223372036854775808≤n) (h1:n≤9223372036854775807):numP (itoa n)=n:=by unfold numP; rw [atoiAll_itoa n h0 h1]
theorem index_one_none (c:UInt8):∀ a:Bs,c ∉ a→index a [c]=-1
 | [],_=>rfl
 | b :: l,h=>by
  have h1:c≠b:=fun e=>h (by simp [e])
  have h2:=index_one_none c l (fun e=>h (by simp [e]))
  rw [index,h2]
  simp [List.isPrefixOf,h1]
theorem index_one_hit (c:UInt8):∀ (a r:Bs),c ∉ a→index (a ++ c :: r) [c]=a.length
 | [],r,_=>by simp [index,List.isPrefixOf]
 | b :: l,r,h=>by
  have h1:c≠b:=fun e=>h (by simp [e])
  have h2:=index_one_hit c l r (fun e=>h (by simp [e]))
  rw [List.cons_append,index,h2]
  simp [List.isPrefixOf,h1]
theorem splitK_one (c:UInt8) (k:Nat) (a:Bs) (h:c ∉ a):splitK [c] 0 k a=[a]:=by
 cases k with
 | zero=>rfl
 | succ k=>unfold splitK; rw [index_one_none c a h]; rfl
theorem splitK_cons (c:UInt8) (k:Nat) (a r:Bs) (h:c ∉ a):splitK [c] 0 (k+1) (a ++ c :: r)=a :: splitK [c] 0 k r:=by
 show (if index (a ++ c :: r) [c] == -1 then _ else _)=_
 rw [index_one_hit c a r h]
 have:¬ ((a.length:Int) == -1)=true:=by simp
 rw [if_neg this]
 simp
theorem intercalate_cons (c:UInt8) (a b:Bs) (l:List Bs):List.intercalate [c] (a :: b :: l)=a ++ c :: List.intercalate [c] (b :: l):=by
 simp [List.intercalate,List.intersperse]
theorem intercalate_one (c:UInt8) (a:Bs):List.intercalate [c] [a]=a:=by simp [List.intercalate]
theorem count_zero {c:UInt8} {a:Bs} (h:c ∉ a):List.count c a=0:=List.count_eq_zero.2 h
theorem split_join (c:UInt8):∀ (l:List Bs),l≠[]→(∀ w∈l,c ∉ w)→splitK [c] 0 (count (List.intercalate [c] l) [c]) (List.intercalate [c] l)=l
 | [],h,_=>absurd rfl h
 | [a],_,h=>by rw [intercalate_one]; exact splitK_one c _ a (h a (by simp))
 | a :: b :: l,_,h=>by
  have ih:=split_join c (b :: l) (by simp) (fun w hw=>h w (by simp [hw]))
  rw [intercalate_cons,count_one,List.count_append,count_zero (h a (by simp)),List.count_cons_self,Nat.zero_add,splitK_cons c _ a _ (h a (by simp)),← count_one,ih]
theorem split_stText (s:St):splitK [32] 0 (count (stText s) [32]) (stText s)=stWords s :=
 split_join 32 (stWords s) (by simp [stWords]) (stWords_blank s)
theorem cut_regW (r:Int × Int):Lib.cut (regW r) [58]=(itoa r.1,itoa r.2,true):=by
 unfold Lib.cut regW
 rw [index_one_hit 58 _ _ (itoa_colon _)]
 rw [if_pos (by omega)]
 simp
def regP (w:Bs):Int × Int:=(numP (Lib.cut w [58]).1,numP (Lib.cut w [58]).2.1)
def wordsP (l:List Bs):St:=⟨numP (l.getD 0 []),(l.drop 4).map regP,numP (l.getD 1 []),numP (l.getD 2 []),decide (l.getD 3 []=stayW true)⟩
theorem stayW_inj (b:Bool):decide (stayW b=stayW true)=b:=by cases b <;> decide
structure Fits (s:St):Prop where
 gen:-9223372036854775808≤s.gen∧s.gen≤9223372036854775807
 typ:-9223372036854775808≤s.typ∧s.typ≤9223372036854775807
 holder:-9223372036854775808≤s.holder∧s.holder≤9223372036854775807
 regs:∀ r∈s.regs,(-9223372036854775808≤r.1∧r.1≤9223372036854775807)∧(-9223372036854775808≤r.2∧r.2≤9223372036854775807)
theorem wordsP_stWords (s:St) (h:Fits s):wordsP (stWords s)=s:=by
 obtain ⟨gen,regs,typ,holder,stays⟩:=s
 obtain ⟨hg,ht,hh,hr⟩:=h
 unfold wordsP stWords
 simp only [List.getD_cons_zero,List.getD_cons_succ,List.drop_succ_cons,List.drop_zero,List.map_map,stayW_inj]
 rw [numP_itoa _ hg.1 hg.2,numP_itoa _ ht.1 ht.2,numP_itoa _ hh.1 hh.2]
 congr 1
 rw [show regs=regs.map id by simp]
 simp only [List.map_map]
 refine List.map_congr_left fun r hr'=>?_
 have:=hr r hr'
 simp only [Function.comp,regP,cut_regW,id]
 rw [numP_itoa _ this.1.1 this.1.2,numP_itoa _ this.2.1 this.2.2]
theorem keyOf_who:∀ (l:List (Int × Int)) (n:Int),keyOf l n≠0→∃ r∈l,r.1=n
 | [],n,h=>absurd rfl h
 | r :: l,n,h=>by
  unfold keyOf at h
  split at h
  ·rename_i e; exact ⟨r,by simp,e⟩
  ·obtain ⟨x,hx,e⟩:=keyOf_who l n h; exact ⟨x,by simp [hx],e⟩
theorem Good.typ_le {s:St} (h:Good s):0≤s.typ∧s.typ≤8:=by
 by_cases h0:s.typ=0
 ·omega
 ·have:=h.typ h0; simp [typeMay] at this; omega
theorem Good.holder_le {s:St} (h:Good s):0≤s.holder∧s.holder≤4:=by
 by_cases h0:s.typ=0
 ·have:=h.zero h0; omega
 ·by_cases h7:7≤s.typ
  ·have:=(h.all h7).1; omega
  ·obtain ⟨r,hr,e⟩:=keyOf_who _ _ (h.one h0 (by omega))
   have:=h.bounds r hr
   omega
theorem Good.fits {s:St} (h:Good s):Fits s :=
 ⟨by have:=h.gen; omega,by have:=h.typ_le; omega,by have:=h.holder_le; omega,fun r hr=>by have:=h.bounds r hr; omega⟩
theorem wordsP_text {s:St} (h:Good s) {t:Bs} (e:stText s=t):wordsP (splitK [32] 0 (count t [32]) t)=s:=by
 rw [← e,split_stText,wordsP_stWords s h.fits]
theorem words_len {s:St} {t:Bs} (e:stText s=t):4≤(splitK [32] 0 (count t [32]) t).length:=by
 rw [← e,split_stText]; simp [stWords]
theorem stText_inj {s t:St} (h:Good s) (g:Good t) (e:stText s=stText t):s=t:=by
 rw [← wordsP_text h rfl,← wordsP_text g rfl,e]
theorem nDigits_le (k u:Nat) (h:u<10 ^ (k+1)):nDigits u≤k+1:=by
 induction k generalizing u with
 | zero=>rw [nDigits_small (by simpa using h)]; omega
 | succ k ih =>
  by_cases hs:u<10
  ·rw [nDigits_small hs]; omega
  ·rw [nDigits_big hs]
   have:=ih (u / 10) (by rw [Nat.pow_succ] at h; omega)
   omega
theorem itoa_len (k:Nat) (n:Int) (h0:0≤n) (h1:n<10 ^ (k+1)):(itoa n).length≤k+1:=by
 unfold itoa
 rw [if_neg (by omega),decDigits_length]
 have e:(n.toNat:Int)=n:=Int.toNat_of_nonneg h0
 exact nDigits_le k _ (by
  have h2:((n.toNat:Nat):Int)<((10 ^ (k+1):Nat):Int):=by rw [e]; push_cast; exact h1
  exact_mod_cast h2)
theorem itoa_len_any (n:Int) (h0:-9223372036854775808≤n) (h1:n≤9223372036854775807):(itoa n).length≤20:=by
 unfold itoa
 split
 ·rw [List.length_cons,decDigits_length]
  have:=nDigits_le 18 n.natAbs (by omega)
  omega
 ·rw [decDigits_length]
  have:=nDigits_le 18 n.toNat (by omega)
  omega
theorem join_len (c:UInt8):∀ (l:List Bs) (m:Nat),(∀ w∈l,w.length≤m)→(List.intercalate [c] l).length≤l.length*(m+1)
 | [],m,_=>by simp [List.intercalate]
 | [a],m,h=>by rw [intercalate_one]; have:=h a (by simp); simp; omega
 | a :: b :: l,m,h=>by
  have ih:=join_len c (b :: l) m (fun w hw=>h w (by simp [hw]))
  have:=h a (by simp)
  rw [intercalate_cons,List.length_append,List.length_cons]
  simp only [List.length_cons] at ih ⊢
  rw [Nat.add_mul,Nat.one_mul]
  omega
theorem sorted_len:∀ (l:List (Int × Int)) (p:Int),(∀ r∈l,p<r.1∧r.1≤4)→l.Pairwise (fun a b=>a.1<b.1)→p≤4→(l.length:Int)≤4 - p
 | [],p,_,_,hp=>by simp; omega
 | r :: l,p,h,hs,hp=>by
  have h1:=h r (by simp)
  rw [List.pairwise_cons] at hs
  have:=sorted_len l r.1 (fun x hx=>⟨hs.1 x hx,(h x (by simp [hx])).2⟩) hs.2 h1.2
  simp only [List.length_cons]
  push_cast
  omega
theorem Good.regs_len {s:St} (h:Good s):s.regs.length≤4:=by
 have:=sorted_len s.regs 0 (fun r hr=>by have:=h.bounds r hr; omega) h.sorted (by omega)
 omega
theorem Good.text_len {s:St} (h:Good s):(stText s).length≤48:=by
 have h1:=itoa_len 9 s.gen h.gen.1 (by have:=h.gen; omega)
 have h2:=itoa_len 0 s.typ h.typ_le.1 (by have:=h.typ_le; omega)
 have h3:=itoa_len 0 s.holder h.holder_le.1 (by have:=h.holder_le; omega)
 have h4:(stayW s.stays).length≤5:=by cases s.stays <;> decide
 have hr:∀ w∈s.regs.map regW,w.length≤5:=by
  intro w hw
  obtain ⟨r,hr,rfl⟩:=List.mem_map.1 hw
  have hb:=h.bounds r hr
  have a1:=itoa_len 0 r.1 (by omega) (by omega)
  have a2:=itoa_len 2 r.2 (by omega) (by omega)
  unfold regW
  simp
  omega
 have h5:=join_len 32 _ 5 hr
 have h6:=h.regs_len
 rw [List.length_map] at h5
 unfold stText stWords Lib.join
 cases hm:s.regs.map regW with
 | nil =>
  rw [intercalate_cons,intercalate_cons,intercalate_cons,intercalate_one]
  simp
  omega
 | cons x l =>
  rw [hm] at h5
  rw [intercalate_cons,intercalate_cons,intercalate_cons,intercalate_cons]
  simp
  omega
end Go.Proofs.YtajegiifabfcjaaGreatDoor
namespace Go.Proofs.YtajegiifabfcjaaGreatDoor
open Go.RowKit Go.Sort
theorem ret_int {k:IntKind} {a b:Int} (h:a=b):Ending.returned (.int k a)=Ending.returned (.int k b):=by rw [h]
theorem ret_bool {a b:Bool} (h:a=b):Ending.returned (.bool a)=Ending.returned (.bool b):=by rw [h]
def Pairs (B:Nat) (w:World) (a:Option Addr) (l:List (Int × Int)):Prop :=
 ∀ i (h:i<l.length),∃ b o,a=some ⟨b,o,none⟩∧b<B∧w.cell? ⟨b,o+i*2,none⟩=some (.int .i64 (l[i]).1)∧w.cell? ⟨b,o+i*2+1,none⟩=some (.int .i64 (l[i]).2)
theorem Pairs.below {B C:Nat} {w w':World} {a:Option Addr} {l:List (Int × Int)} (h:Pairs B w a l) (hb:Below C w w') (hBC:B≤C):Pairs B w' a l:=by
 intro i hi
 obtain ⟨b,o,rfl,hbB,h1,h2⟩:=h i hi
 exact ⟨b,o,rfl,hbB,(hb.cell (p:=⟨b,o+i*2,none⟩) (by show b<C; omega)).trans h1,(hb.cell (p:=⟨b,o+i*2+1,none⟩) (by show b<C; omega)).trans h2⟩
theorem Pairs.mono {B C:Nat} {w:World} {a:Option Addr} {l:List (Int × Int)} (h:Pairs B w a l) (hBC:B≤C):Pairs C w a l:=by
 intro i hi
 obtain ⟨b,o,rfl,hbB,h1⟩:=h i hi
 exact ⟨b,o,rfl,by omega,h1⟩
theorem Pairs.nil (B:Nat) (w:World) (a:Option Addr):Pairs B w a []:=fun i hi=>absurd hi (by simp)
theorem bcell {W w1:World} (hb:Below W.heap.size W w1):(∀ b o,b<W.heap.size→w1.cell? ⟨b,o,none⟩=W.cell? ⟨b,o,none⟩)∧(∀ b o,b<W.heap.size→w1.frozen? ⟨b,o,none⟩=W.frozen? ⟨b,o,none⟩) :=
 ⟨fun b o h=>hb.cell (p:=⟨b,o,none⟩) h,fun b o h=>hb.frozen (p:=⟨b,o,none⟩) h⟩
theorem bal (w:World) (o:Obj):Below w.heap.size w (w.alloc o):=(Below.refl _ _).alloc (Nat.le_refl _) _
theorem bsz {w w':World} {o:Obj} {n:Nat} (h:Below n (w.alloc o) w'):w.heap.size+1≤w'.heap.size:=by have:=h.size; simpa using this
theorem bover {w w':World} {o:Obj} {n:Nat} (h:Below n (w.alloc o) w') (hn:w.heap.size≤n):Below w.heap.size w w':=(bal w o).trans (h.mono hn)
theorem bregrown {W w1:World} (hb:Below W.heap.size W w1):∀ (d:Nat) (os:Array Obj) (b o:Nat),b<W.heap.size→(grow (redrawn w1 d) os).cell? ⟨b,o,none⟩=W.cell? ⟨b,o,none⟩ :=
 fun d os b o h=>(((below_regrown w1 d os).mono hb.size).cell (p:=⟨b,o,none⟩) h).trans (hb.cell (p:=⟨b,o,none⟩) h)
theorem heap3 (w:World) (A B C:Obj):(((w.alloc A).alloc B).alloc C).heap[w.heap.size]?=some A∧(((w.alloc A).alloc B).alloc C).heap[w.heap.size+1]?=some B∧(((w.alloc A).alloc B).alloc C).heap[w.heap.size+1+1]?=some C:=by
 have h1:(w.alloc A).heap[w.heap.size]?=some A:=heap_alloc_new _ _
 have h2:((w.alloc A).alloc B).heap[w.heap.size+1]?=some B:=by have:=heap_alloc_new (w.alloc A) B; simpa using this
 have h3:(((w.alloc A).alloc B).alloc C).heap[w.heap.size+1+1]?=some C:=by have:=heap_alloc_new ((w.alloc A).alloc B) C; simpa using this
 refine ⟨?_,?_,h3⟩
 ·rw [Below.heap_alloc _ _ _ (by simp; omega),Below.heap_alloc _ _ _ (by simp)]; exact h1
 ·rw [Below.heap_alloc _ _ _ (by simp)]; exact h2
theorem box5 {W w1:World} {n:Nat} (hb:Below n W w1) {b:Nat} (hbn:b<n) {v0 v1 v2 v3 v4:Value} {T:TypeId} (h:W.heap[b]?=some (.cells #[v0,v1,v2,v3,v4] T (0,0))) :
  (w1.cell? ⟨b,0,none⟩=some v0∧w1.cell? ⟨b,1,none⟩=some v1∧w1.cell? ⟨b,2,none⟩=some v2∧w1.cell? ⟨b,3,none⟩=some v3∧w1.cell? ⟨b,4,none⟩=some v4) ∧
  (w1.frozen? ⟨b,0,none⟩=false∧w1.frozen? ⟨b,1,none⟩=false∧w1.frozen? ⟨b,2,none⟩=false∧w1.frozen? ⟨b,3,none⟩=false∧w1.frozen? ⟨b,4,none⟩=false):=by
 have h1:w1.heap[b]?=some (.cells #[v0,v1,v2,v3,v4] T (0,0)):=(hb.block b hbn).trans h
 simp [World.cell?,World.frozen?,h1]
abbrev stV (s:St) (a:Option Addr) (cap:Nat):Value:=.agg #[.int .i64 s.gen,.slice a s.regs.length cap,.int .i64 s.typ,.int .i64 s.holder,.bool s.stays]
structure StR (w:World) (s:St) (a:Option Addr):Prop where
 len:s.regs.length≤maxLen
 rep:Pairs w.heap.size w a s.regs
theorem StR.below {w w':World} {s:St} {a:Option Addr} (h:StR w s a) (hb:Below w.heap.size w w'):StR w' s a :=
 ⟨h.len,(h.rep.below hb (Nat.le_refl _)).mono hb.size⟩
end Go.Proofs.YtajegiifabfcjaaGreatDoor
namespace Go.Proofs.YtajegiifabfcjaaGreatDoor
open Go.RowKit
def pcells (l:List (Int × Int)):List Value:=l.flatMap fun r=>[.int .i64 r.1,.int .i64 r.2]
theorem pcells_length (l:List (Int × Int)):(pcells l).length=l.length*2:=by
 induction l with
 | nil=>rfl
 | cons r l ih=>simp [pcells] at ih ⊢; omega
theorem pcells_append (l m:List (Int × Int)):pcells (l ++ m)=pcells l ++ pcells m:=by simp [pcells]
theorem pcells_at:∀ (l:List (Int × Int)) (i:Nat) (h:i<l.length),(pcells l)[i*2]?=some (.int .i64 (l[i]).1)∧(pcells l)[i*2+1]?=some (.int .i64 (l[i]).2)
 | r :: l,0,_=>by simp [pcells]
 | r :: l,i+1,h=>by
  have:=pcells_at l i (by simpa using h)
  have e:pcells (r :: l)=.int .i64 r.1 :: .int .i64 r.2 :: pcells l:=rfl
  rw [e,show (i+1)*2=i*2+1+1 from by omega]
  simpa using this
theorem pcells_one (l:List (Int × Int)):∀ u∈pcells l,u.oneCell'=true:=by
 intro u hu
 simp only [pcells,List.mem_flatMap,List.mem_cons,List.mem_nil_iff,or_false] at hu
 obtain ⟨r,_,h | h⟩:=hu <;> subst h <;> rfl
def OwnP (B:Nat) (w:World) (v:Value) (l:List (Int × Int)):Prop:=w.ownsRow B 118 2 v l.length (pcells l)
theorem OwnP.shape {B:Nat} {w:World} {v:Value} {l:List (Int × Int)} (h:OwnP B w v l):∃ a cap,v=.slice a l.length cap∧Pairs w.heap.size w a l∧(a=none→cap=0):=by
 obtain ⟨h1,h2⟩:=h
 rcases h2 with ⟨rfl,hn⟩ | ⟨g,cap,cur,rfl,hg,hh,hc,hm,hs,ht⟩
 ·have:l=[]:=List.length_eq_zero_iff.1 hn
  subst this
  exact ⟨none,0,rfl,Pairs.nil _ _ _,fun _=>rfl⟩
 ·refine ⟨_,cap,rfl,fun i hi=>?_,fun e=>by cases e⟩
  have hlt:g<w.heap.size:=(Array.getElem?_eq_some_iff.1 hh).1
  obtain ⟨p1,p2⟩:=pcells_at l i hi
  have hcell:∀ j,j<l.length*2→w.cell? ⟨g,0+j,none⟩=(pcells l)[j]?:=by
   intro j hj
   rw [← ht,List.getElem?_take_of_lt hj]
   simp [World.cell?,hh]
  exact ⟨g,0,rfl,hlt,(hcell _ (by omega)).trans p1,by rw [show 0+i*2+1=0+(i*2+1) from by omega]; exact (hcell _ (by omega)).trans p2⟩
theorem Tryz.infoReg:(Tryz.prog.info? 118).map (fun i=>(i.zero,i.size,i.bytes))=some (some (.agg #[.int .i64 0,.int .i64 0]),2,16):=by kernel_rfl
theorem pairs_cells {B:Nat} {w:World} {b o:Nat} {l:List (Int × Int)} (h:Pairs B w (some ⟨b,o,none⟩) l):∀ j u,(pcells l)[j]?=some u→w.cell? ((⟨b,o,none⟩:Addr).add j)=some u:=by
 intro j u hj
 have hl:=pcells_length l
 have hjl:j<l.length*2:=by
  have:=(List.getElem?_eq_some_iff.1 hj).1
  omega
 obtain ⟨b',o',e,hb,c1,c2⟩:=h (j / 2) (by omega)
 obtain ⟨rfl,rfl⟩:b=b'∧o=o':=by simpa using e
 obtain ⟨p1,p2⟩:=pcells_at l (j / 2) (by omega)
 have hadd:(⟨b,o,none⟩:Addr).add j=⟨b,o+j,none⟩:=by unfold Addr.add; split <;> simp_all
 rw [hadd]
 rcases (by omega:j=j / 2*2∨j=j / 2*2+1) with e | e
 ·rw [e] at hj ⊢
  rw [p1] at hj
  rw [← hj]; exact c1
 ·rw [e] at hj ⊢
  rw [p2] at hj
  rw [← hj,show o+(j / 2*2+1)=o+j / 2*2+1 from by omega]; exact c2
theorem OwnP.blk {B:Nat} {w:World} {v:Value} {l:List (Int × Int)} (h:OwnP B w v l):∀ k,v.ownBlock=some k→B≤k:=by
 obtain ⟨_,h2⟩:=h
 rcases h2 with ⟨rfl,_⟩ | ⟨g,cap,cur,rfl,hg,_⟩
 ·intro k hk; cases hk
 ·intro k hk; simp [Value.ownBlock] at hk; omega
theorem own_snoc {B:Nat} {w:World} {v:Value} {l:List (Int × Int)} {x y:Int} (h:w.ownsRow B 118 2 v (l.length+1) (pcells l ++ pcells [(x,y)])):OwnP B w v (l ++ [(x,y)]):=by
 unfold OwnP
 rw [pcells_append,List.length_append]
 exact h
theorem OwnP.below {B:Nat} {w w':World} {v:Value} {l:List (Int × Int)} (h:OwnP B w v l) (hb:Below w.heap.size w w'):OwnP B w' v l:=by
 obtain ⟨h1,h2⟩:=h
 refine ⟨h1,?_⟩
 rcases h2 with h2 | ⟨g,cap,cur,e1,e2,e3,e4⟩
 ·exact .inl h2
 ·exact .inr ⟨g,cap,cur,e1,e2,by rw [hb.block g ((Array.getElem?_eq_some_iff.1 e3).1)]; exact e3,e4⟩
structure Keeps (S:Nat→Prop) (w w':World):Prop where
 os:w'.os=w.os
 tape:w'.tape=w.tape
 output:w'.output=w.output
 size:w.heap.size≤w'.heap.size
 block:∀ k,¬ S k→k<w.heap.size→w'.heap[k]?=w.heap[k]?
theorem Keeps.refl (S:Nat→Prop) (w:World):Keeps S w w:=⟨rfl,rfl,rfl,Nat.le_refl _,fun _ _ _=>rfl⟩
theorem Keeps.trans {S:Nat→Prop} {a b c:World} (h:Keeps S a b) (k:Keeps S b c):Keeps S a c :=
 ⟨k.os.trans h.os,k.tape.trans h.tape,k.output.trans h.output,Nat.le_trans h.size k.size,fun i hi hs=>(k.block i hi (Nat.lt_of_lt_of_le hs h.size)).trans (h.block i hi hs)⟩
theorem Keeps.drew {S:Nat→Prop} {a w:World} (h:Keeps S a w):Keeps S a w.drew:=⟨h.os,h.tape,h.output,h.size,h.block⟩
theorem Keeps.drewN {S:Nat→Prop} {a w:World} (h:Keeps S a w) (n:Nat):Keeps S a (w.drewN n):=⟨h.os,h.tape,h.output,h.size,h.block⟩
theorem Keeps.setCell {S:Nat→Prop} {a w:World} (h:Keeps S a w) {p:Addr} (hp:S p.block) (u:Value):Keeps S a (w.setCell p u) :=
 h.trans ⟨rfl,rfl,rfl,by simp [World.setCell],fun k hk _=>Below.heap_setCell _ _ _ _ (fun e=>hk (e▸hp))⟩
theorem Keeps.alloc {S:Nat→Prop} {a w:World} (h:Keeps S a w) (o:Obj):Keeps S a (w.alloc o) :=
 h.trans ⟨rfl,rfl,rfl,by simp,fun k _ hk=>Below.heap_alloc _ _ _ hk⟩
theorem Keeps.of_below {S:Nat→Prop} {w w':World} (h:Below w.heap.size w w'):Keeps S w w':=⟨h.os,h.tape,h.output,h.size,fun k _ hk=>h.block k hk⟩
theorem Keeps.mono {S T:Nat→Prop} {w w':World} (h:Keeps S w w') (hS:∀ k,S k→T k):Keeps T w w':=⟨h.os,h.tape,h.output,h.size,fun k hk hs=>h.block k (fun e=>hk (hS k e)) hs⟩
theorem Keeps.below {S:Nat→Prop} {w w':World} (h:Keeps S w w') {B:Nat} (hB:B≤w.heap.size) (hS:∀ k,S k→B≤k):Below B w w' :=
 ⟨h.os,h.tape,h.output,h.size,fun k hk=>h.block k (fun e=>by have:=hS k e; omega) (by omega)⟩
theorem Keeps.cell {S:Nat→Prop} {w w':World} (h:Keeps S w w') {b o:Nat} (hs:¬ S b) (hb:b<w.heap.size):w'.cell? ⟨b,o,none⟩=w.cell? ⟨b,o,none⟩ :=
 World.cell?_of_block (w:=w) (a:=⟨b,o,none⟩) (h.block b hs hb)
theorem block_setCell {w:World} {M o:Nat} {cs:Array Value} {T:TypeId} (h:w.heap[M]?=some (.cells cs T (0,0))) (u:Value):(w.setCell ⟨M,o,none⟩ u).heap[M]?=some (.cells (cs.setIfInBounds o u) T (0,0)):=by
 simp only [World.setCell,Array.getElem?_modify,if_pos,h]
 rfl
def prevOf (l:List (Int × Int)):Nat→Int
 | 0=>0
 | k+1=>(l[k]?.getD (0,0)).1
theorem prevOf_succ (l:List (Int × Int)) (k:Nat) (h:k<l.length):prevOf l (k+1)=l[k].1:=by simp [prevOf,h]
theorem rf_bound (l:List (Int × Int)) (k:Nat) (h:k<l.length) (p:Int) (hb:l[k].1<1∨4<l[k].1∨l[k].2<1∨999<l[k].2):regsFault p (l.drop k)=1:=by
 rw [List.drop_eq_getElem_cons h]; unfold regsFault; rw [if_pos hb]
theorem rf_shape (l:List (Int × Int)) (k:Nat) (h:k<l.length) (p:Int) (hb:¬ (l[k].1<1∨4<l[k].1∨l[k].2<1∨999<l[k].2)) (hp:l[k].1≤p):regsFault p (l.drop k)=2:=by
 rw [List.drop_eq_getElem_cons h]; unfold regsFault; rw [if_neg hb,if_pos hp]
theorem rf_on (l:List (Int × Int)) (k:Nat) (h:k<l.length) (p:Int) (hb:¬ (l[k].1<1∨4<l[k].1∨l[k].2<1∨999<l[k].2)) (hp:¬ l[k].1≤p):regsFault p (l.drop k)=regsFault l[k].1 (l.drop (k+1)):=by
 rw [List.drop_eq_getElem_cons h,regsFault,if_neg hb,if_neg hp]
theorem sf_gen {s:St} (h:s.gen<0∨1000000000<s.gen):stateFault s=1:=by unfold stateFault; rw [if_pos h]
theorem sf_regs {s:St} (h:¬ (s.gen<0∨1000000000<s.gen)) (h2:regsFault 0 s.regs≠0):stateFault s=regsFault 0 s.regs:=by unfold stateFault; rw [if_neg h,if_pos h2]
def sfRest (s:St):Int:=if s.typ=0 then (if s.holder≠0 then 2 else 0)
 else if typeMay s.typ=false then 2
 else if 7≤s.typ then (if s.holder≠0∨s.regs.length=0 then 2 else 0)
 else if keyOf s.regs s.holder=0 then 2 else 0
theorem sf_rest {s:St} (h:¬ (s.gen<0∨1000000000<s.gen)) (h2:regsFault 0 s.regs=0):stateFault s=sfRest s:=by unfold stateFault; rw [if_neg h,if_neg (by simp [h2])]; rfl
theorem keyOf_hit (l:List (Int × Int)) (k:Nat) (h:k<l.length) (who:Int) (hw:(l[k].1 == who)=true) (hk:keyOf (l.drop k) who=keyOf l who):l[k].2=keyOf l who:=by
 rw [← hk,List.drop_eq_getElem_cons h]; simp at hw; simp [keyOf,hw]
theorem keyOf_miss (l:List (Int × Int)) (k:Nat) (h:k<l.length) (who:Int) (hw:(l[k].1 == who)=false) (hk:keyOf (l.drop k) who=keyOf l who):keyOf (l.drop (k+1)) who=keyOf l who:=by
 rw [← hk,List.drop_eq_getElem_cons h]; simp at hw; simp [keyOf,hw]
theorem keyOf_end (l:List (Int × Int)) (k:Nat) (h:l.length≤k) (who:Int) (hk:keyOf (l.drop k) who=keyOf l who):(0:Int)=keyOf l who:=by
 rw [← hk,List.drop_of_length_le h]; rfl
theorem key_any (s:St) (a:Option Addr) (cap:Nat) (who:Int) (w:World) (hr:StR w s a) :
  Calls Tryz.prog 24 #[stV s a cap,.int .i64 who] w fun e w'=>e=.returned (.int .i64 (keyOf s.regs who))∧Below w.heap.size w w':=by
 obtain ⟨g,l,t,h,st⟩:=s
 obtain ⟨hl,hr⟩:=hr
 unfold maxLen at hl
 dsimp only at hl hr
 go_enter Tryz.func24,Tryz.ntmps24
 go_wp2
 go_loopw [10] (fun i wr=>∃ k:Nat,k≤l.length∧i=.int .i64 k∧keyOf (l.drop k) who=keyOf l who∧Below (w.heap.size+1) (w.alloc (.cells #[.int .i64 g,.slice a l.length cap,.int .i64 t,.int .i64 h,.bool st] 35)) wr) (fun i _=>l.length - (intOf i).toNat)
 case atStart=>exact ⟨0,by omega,rfl,rfl,Below.refl _ _⟩
 case round =>
  obtain ⟨k,hk,rfl,hK,hb⟩:=hrel
  have HK:=Lib.hid hK; clear hK
  have hs:=bsz hb
  by_cases hlt:k<l.length
  ·obtain ⟨b,o,rfl,hbs,h1,h2⟩:=hr k hlt
   have c1:=((bover hb (by omega)).cell (p:=⟨b,o+k*2,none⟩) hbs).trans h1
   have c2:=((bover hb (by omega)).cell (p:=⟨b,o+k*2+1,none⟩) hbs).trans h2
   clear hr
   go_wp2
   ·have hw:(l[k].1 == who)=true:=by assumption
    go_ret
    exact ⟨ret_int (keyOf_hit l k hlt who hw HK.out),(bover hb (by omega)).trans ((bal wr _).mono (by omega))⟩
   ·have hw:(l[k].1 == who)=false:=by assumption
    go_roundw
    case rel=>exact ⟨k+1,by omega,by go_num,keyOf_miss l k hlt who hw HK.out,hb.alloc (by omega) _⟩
    case measure=>simp [intOf]; omega
  ·go_wp2
   go_ret
   exact ⟨ret_int (keyOf_end l k (by omega) who HK.out),bover hb (by omega)⟩
theorem all_any (s:St) (a:Option Addr) (cap:Nat) (w:World) :
  Calls Tryz.prog 103 #[stV s a cap] w fun e w'=>e=.returned (.bool (allT s.typ))∧Below w.heap.size w w':=by
 obtain ⟨g,l,t,h,st⟩:=s
 dsimp only
 by_cases h7:t=7
 ·subst h7
  go_enter Tryz.func103,Tryz.ntmps103
  go_wp2
  go_ret
  exact ⟨rfl,bal w _⟩
 ·by_cases h8:t=8
  ·subst h8
   go_enter Tryz.func103,Tryz.ntmps103
   go_wp2
   go_ret
   exact ⟨rfl,bal w _⟩
  ·go_enter Tryz.func103,Tryz.ntmps103
   go_wp2
   go_ret
   exact ⟨ret_bool (by simp [allT,h7,h8]),bal w _⟩
def Ints (B:Nat) (w:World) (a:Option Addr) (l:List Int):Prop :=
 ∀ i (h:i<l.length),∃ b o,a=some ⟨b,o,none⟩∧b<B∧w.cell? ⟨b,o+i,none⟩=some (.int .i64 l[i])
theorem Ints.below {B C:Nat} {w w':World} {a:Option Addr} {l:List Int} (h:Ints B w a l) (hb:Below C w w') (hBC:B≤C):Ints B w' a l:=by
 intro i hi
 obtain ⟨b,o,rfl,hbB,h1⟩:=h i hi
 exact ⟨b,o,rfl,hbB,(hb.cell (p:=⟨b,o+i,none⟩) (by show b<C; omega)).trans h1⟩
theorem Ints.mono {B C:Nat} {w:World} {a:Option Addr} {l:List Int} (h:Ints B w a l) (hBC:B≤C):Ints C w a l:=by
 intro i hi
 obtain ⟨b,o,rfl,hbB,h1⟩:=h i hi
 exact ⟨b,o,rfl,by omega,h1⟩
theorem Ints.nil (B:Nat) (w:World) (a:Option Addr):Ints B w a []:=fun i hi=>absurd hi (by simp)
def placeOf (v:Int):List Int→Int
 | []=>-1
 | x :: l=>if x=v then 0 else if placeOf v l<0 then -1 else placeOf v l+1
theorem placeOf_none (v:Int):∀ l:List Int,v ∉ l→placeOf v l=-1
 | [],_=>rfl
 | x :: l,h=>by
  simp at h
  unfold placeOf
  rw [if_neg (fun e=>h.1 e.symm),placeOf_none v l h.2,if_pos (by omega)]
theorem placeOf_at (v:Int):∀ (l:List Int) (k:Nat) (h:k<l.length),l[k]=v→(∀ j (hj:j<k),l[j]≠v)→placeOf v l=k
 | x :: l,0,_,he,_=>by
  simp at he
  unfold placeOf; rw [if_pos he]; rfl
 | x :: l,k+1,h,he,hn=>by
  have h0:x≠v:=hn 0 (by omega)
  have ih:=placeOf_at v l k (by simpa using h) (by simpa using he) (fun j hj=>hn (j+1) (by omega))
  unfold placeOf
  rw [if_neg h0,ih,if_neg (by omega)]; omega
theorem index_int (l:List Int) (a:Option Addr) (cap:Nat) (v:Int) (w:World) (hl:l.length≤maxLen) (hr:Ints w.heap.size w a l) :
  Calls Tryz.prog 113 #[.slice a l.length cap,.int .i64 v] w fun e w'=>e=.returned (.int .i64 (placeOf v l))∧w=w':=by
 unfold maxLen at hl
 go_enter Tryz.func113,Tryz.ntmps113
 go_wp2
 go_loop [8] (fun i=>∃ k:Nat,k≤l.length∧i=.int .i64 k∧∀ j (_:j<k) (hj:j<l.length),l[j]≠v) (fun i=>l.length - (intOf i).toNat)
 case atStart=>exact ⟨0,by omega,rfl,fun j h=>absurd h (by omega)⟩
 case round =>
  obtain ⟨k,hk,rfl,hK⟩:=hrel
  have HK:=Lib.hid hK; clear hK
  by_cases hlt:k<l.length
  ·obtain ⟨b,o,rfl,hbs,h1⟩:=hr k hlt
   clear hr
   by_cases hv:v=l[k]
   ·have hvb:(v == l[k])=true:=by simp [hv]
    have hp:=placeOf_at v l k hlt hv.symm (fun j hj=>HK.out j hj (by omega))
    have HP:=Lib.hid hp
    clear hp hv
    go_wp2
    go_ret
    exact ⟨ret_int HP.out.symm,rfl⟩
   ·have hvb:(v == l[k])=false:=by simp [hv]
    have hn:∀ j (_:j<k+1) (hj:j<l.length),l[j]≠v:=by
     intro j h1 h2
     by_cases e:j=k
     ·subst e; exact fun e=>hv e.symm
     ·exact HK.out j (by omega) h2
    have HN:=Lib.hid hn
    clear hn hv
    go_wp2
    go_round
    case rel=>exact ⟨k+1,by omega,by go_num,HN.out⟩
    case measure=>simp [intOf]; omega
  ·have hp:placeOf v l=-1:=placeOf_none v l (fun hm=>by
    obtain ⟨j,hj,e⟩:=List.getElem_of_mem hm
    exact HK.out j (by omega) hj e)
   have HP:=Lib.hid hp
   clear hp
   go_wp2
   go_ret
   exact ⟨ret_int HP.out.symm,rfl⟩
theorem contains_int (l:List Int) (a:Option Addr) (cap:Nat) (v:Int) (w:World) (hl:l.length≤maxLen) (hr:Ints w.heap.size w a l) :
  Calls Tryz.prog 91 #[.slice a l.length cap,.int .i64 v] w fun e w'=>e=.returned (.bool (decide (0≤placeOf v l)))∧w=w':=by
 go_enter Tryz.func91,Tryz.ntmps91
 go_wp2_with fail
 refine (index_int l a cap v w hl hr).mono ?_
 rintro e w1 ⟨rfl,rfl⟩
 go_wp2
 go_ret
 exact ⟨rfl,rfl⟩
theorem place_type (n:Int):decide (0≤placeOf n [1,3,5,6,7,8])=typeMay n:=by
 have:placeOf n [1,3,5,6,7,8]=if n=1 then 0 else if n=3 then 1 else if n=5 then 2 else if n=6 then 3 else if n=7 then 4 else if n=8 then 5 else -1:=by
  simp only [placeOf,eq_comm (b:=n)]
  repeat' split
  all_goals omega
 rw [this]
 unfold typeMay
 rw [decide_eq_decide]
 repeat' split
 all_goals omega
theorem type_any (n:Int) (w:World) :
  Calls Tryz.prog 51 #[.int .i64 n] w fun e w'=>e=.returned (.bool (typeMay n))∧Below w.heap.size w w':=by
 rw [← place_type]
 go_enter Tryz.func51,Tryz.ntmps51
 go_wp2_with fail
 refine (contains_int [1,3,5,6,7,8] _ 6 n _ (by simp [maxLen]) ?_).mono ?_
 ·intro i hi
  refine ⟨w.heap.size,0,rfl,by simp,?_⟩
  match i,hi with
  | 0,_=>simp
  | 1,_=>simp
  | 2,_=>simp
  | 3,_=>simp
  | 4,_=>simp
  | 5,_=>simp
 rintro e w1 ⟨rfl,rfl⟩
 go_wp2
 go_ret
 exact ⟨rfl,bal w _⟩
end Go.Proofs.YtajegiifabfcjaaGreatDoor
