/-
  Less, Letters, CmdHas, Told, SameState, Fault, Small, OrdKit, Worlds, OrdSteps
-/
import Derived.Test.YtajegiifabfcjaaGreatDoorQ09
import Derived.Laws.Externs
import Derived.Lib.Bytealg
import Derived.Lib.OthersKept
import Derived.Deep.LoopGhost
import Derived.Deep.RegionHeld3
namespace Go.Proofs.YtajegiifabfcjaaGreatDoor
open Go.RowKit
def lessAt (m:St→Int→Bool→Bool) (s t:St) (who:Int) (b:Bool):Bool:=m s who b && !m t who b
def lessB (m:St→Int→Bool→Bool) (s t:St):Bool:=(List.range 4).any fun j=>lessAt m s t ((j:Int)+1) false || lessAt m s t ((j:Int)+1) true
theorem less_true {m:St→Int→Bool→Bool} {s t:St} {k:Nat} {b:Bool} (hk:k<4) (h:lessAt m s t ((k:Int)+1) b=true):lessB m s t=true:=by
 unfold lessB
 rw [List.any_eq_true]
 exact ⟨k,List.mem_range.2 hk,by cases b <;> rw [h] <;> simp⟩
theorem less_false {m:St→Int→Bool→Bool} {s t:St} (h:∀ j:Nat,j<4→∀ b,lessAt m s t ((j:Int)+1) b=false):lessB m s t=false:=by
 unfold lessB
 rw [List.any_eq_false]
 intro j hj
 rw [h j (List.mem_range.1 hj),h j (List.mem_range.1 hj)]
 decide
theorem less_step {m:St→Int→Bool→Bool} {s t:St} {k:Nat} (h:∀ j:Nat,j<k→∀ b,lessAt m s t ((j:Int)+1) b=false) (h0:lessAt m s t ((k:Int)+1) false=false) (h1:lessAt m s t ((k:Int)+1) true=false):∀ j:Nat,j<k+1→∀ b,lessAt m s t ((j:Int)+1) b=false:=by
 intro j hj b
 rcases (by omega:j<k∨j=k) with hj | rfl
 ·exact h j hj b
 ·cases b <;> assumption
theorem box5' {w:World} {b:Nat} {v0 v1 v2 v3 v4:Value} {T:TypeId} (h:w.heap[b]?=some (.cells #[v0,v1,v2,v3,v4] T (0,0))):w.cell? ⟨b,0,none⟩=some v0∧w.cell? ⟨b,1,none⟩=some v1∧w.cell? ⟨b,2,none⟩=some v2∧w.cell? ⟨b,3,none⟩=some v3∧w.cell? ⟨b,4,none⟩=some v4 :=
 (box5 (Below.refl (b+1) w) (by omega) h).1
set_option maxRecDepth 100000 in
set_option maxHeartbeats 2000000 in
theorem less_any (s t:St) (a b:Option Addr) (cap cbp:Nat) (w:World) (hs:StR w s a) (ht:StR w t b) :
  Calls Tryz.prog 95 #[stV s a cap,stV t b cbp,.func (.func 32) #[] #[]] w fun e w'=>e=.returned (.bool (lessB pmay s t))∧Below w.heap.size w w':=by
 have HS:=Lib.hid hs
 have HT:=Lib.hid ht
 clear hs ht
 go_enter Tryz.func95,Tryz.ntmps95
 go_wp2
 go_loopw [7] (fun i wr=>∃ k:Nat,k≤4∧i=.int .i64 ((k:Int)+1)∧(∀ j:Nat,j<k→∀ b,lessAt pmay s t ((j:Int)+1) b=false)∧Below ((w.alloc (.cells #[.int .i64 s.gen,.slice a s.regs.length cap,.int .i64 s.typ,.int .i64 s.holder,.bool s.stays] 35)).alloc (.cells #[.int .i64 t.gen,.slice b t.regs.length cbp,.int .i64 t.typ,.int .i64 t.holder,.bool t.stays] 35)).heap.size ((w.alloc (.cells #[.int .i64 s.gen,.slice a s.regs.length cap,.int .i64 s.typ,.int .i64 s.holder,.bool s.stays] 35)).alloc (.cells #[.int .i64 t.gen,.slice b t.regs.length cbp,.int .i64 t.typ,.int .i64 t.holder,.bool t.stays] 35)) wr) (fun i _=>(5 - intOf i).toNat)
 case atStart=>exact ⟨0,by omega,rfl,fun j hj=>by omega,Below.refl _ _⟩
 case round =>
  obtain ⟨k,hk,rfl,hN,hb⟩:=hrel
  have HN:=Lib.hid hN
  have HB:=Lib.hid hb
  have hz:w.heap.size+1<wr.heap.size:=by have:=hb.size; simp at this; omega
  have hz0:w.heap.size<wr.heap.size:=by omega
  have HBW:=Lib.hid (show Below w.heap.size w wr from ((bal w _).alloc (by simp) _).trans (hb.mono (by simp; omega)))
  have HA:=Lib.hid ((hb.block w.heap.size (by simp <;> omega)).trans (heap_alloc2_old w _ _))
  have HC:=Lib.hid ((hb.block (w.heap.size+1) (by simp <;> omega)).trans (heap_alloc2_new w _ _))
  clear hN hb
  by_cases h4:k<4
  ·have h4b:decide ((k:Int)+1≤4)=true:=by simp; omega
   go_wp2
   obtain ⟨wo,rfl⟩:∃ wo:World,wo=wr:=⟨_,rfl⟩
   go_loopw [16] (fun i wz=>∃ m:Nat,m≤2∧i=.int .i64 m∧((0<m→lessAt pmay s t ((k:Int)+1) false=false)∧(1<m→lessAt pmay s t ((k:Int)+1) true=false))∧Below (wo.alloc (.cells #[.bool false,.bool true] 4)).heap.size (wo.alloc (.cells #[.bool false,.bool true] 4)) wz) (fun i _=>(2 - intOf i).toNat)
   case atStart=>exact ⟨0,by omega,rfl,⟨fun h=>by omega,fun h=>by omega⟩,Below.refl _ _⟩
   case round =>
    obtain ⟨m,hm,rfl,hM,hi⟩:=hrel
    have HM:=Lib.hid hM
    have HI:=Lib.hid hi
    have hsz:wo.heap.size<wr.heap.size:=by have:=hi.size; simp at this; omega
    have hz1:w.heap.size+1<wr.heap.size:=by omega
    have hz2:w.heap.size<wr.heap.size:=by omega
    have HWR:=Lib.hid (show Below w.heap.size w wr from HBW.out.trans (((bal wo _).trans (hi.mono (bal wo _).size)).mono HBW.out.size))
    have HSW:=Lib.hid (HS.out.below HWR.out)
    have HTW:=Lib.hid (HT.out.below HWR.out)
    have HA5:=Lib.hid (((hi.block _ (by simp; omega)).trans ((bal wo _).block _ hz0)).trans HA.out)
    have HC5:=Lib.hid (((hi.block _ (by simp; omega)).trans ((bal wo _).block _ hz)).trans HC.out)
    have HF5:=Lib.hid ((hi.block wo.heap.size (by simp)).trans (heap_alloc_new wo _))
    clear hM hi
    obtain ⟨d0,d1,d2,d3,d4⟩:=box5' HA5.out
    obtain ⟨e0,e1,e2,e3,e4⟩:=box5' HC5.out
    have hf0:wr.cell? ⟨wo.heap.size,0,none⟩=some (.bool false):=by simp [World.cell?,HF5.out]
    have hf1:wr.cell? ⟨wo.heap.size,1,none⟩=some (.bool true):=by simp [World.cell?,HF5.out]
    rcases (by omega:m=0∨m=1∨m=2) with rfl | rfl | rfl
    ·skip
     have hpm:∃ p,pmay s ((k:Int)+1) false=p:=⟨_,rfl⟩
     obtain ⟨p,hp⟩:=hpm
     have HP:=Lib.hid hp
     clear hp
     go_wp2_with fail
     refine (may_any s a cap ((k:Int)+1) false _ HSW.out).mono ?_
     rintro e w5 ⟨rfl,b5⟩
     rw [HP.out]
     cases p
     ·have HX:=Lib.hid (show lessAt pmay s t ((k:Int)+1) false=false from by unfold lessAt; rw [HP.out]; rfl)
      have B5:=Lib.hid (HI.out.trans (b5.mono HI.out.size))
      clear b5
      go_wp2
      go_roundw
      case rel=>exact ⟨0+1,by omega,by go_num,⟨fun _=>HX.out,fun h=>by omega⟩,B5.out⟩
      case measure=>simp [intOf]
     ·obtain ⟨e0,e1,e2,e3,e4⟩:=box5' ((b5.block _ hz1).trans HC5.out)
      have hq:∃ q,pmay t ((k:Int)+1) false=q:=⟨_,rfl⟩
      obtain ⟨q,hq⟩:=hq
      have HQ:=Lib.hid hq
      have HB5:=Lib.hid b5
      clear hq b5
      go_wp2_with fail
      refine (may_any t b cbp ((k:Int)+1) false _ (HTW.out.below HB5.out)).mono ?_
      rintro e w6 ⟨rfl,b6⟩
      rw [HQ.out]
      have B6:=Lib.hid (HI.out.trans ((HB5.out.trans (b6.mono HB5.out.size)).mono HI.out.size))
      clear b6
      cases q
      ·have HX:=Lib.hid (show lessB pmay s t=true from less_true (b:=false) h4 (by unfold lessAt; rw [HP.out,HQ.out]; rfl))
       go_wp2
       go_ret
       exact ⟨ret_bool HX.out.symm,HBW.out.trans (((bal wo _).trans (B6.out.mono (bal wo _).size)).mono HBW.out.size)⟩
      ·have HX:=Lib.hid (show lessAt pmay s t ((k:Int)+1) false=false from by unfold lessAt; rw [HP.out,HQ.out]; rfl)
       go_wp2
       go_roundw
       case rel=>exact ⟨0+1,by omega,by go_num,⟨fun _=>HX.out,fun h=>by omega⟩,B6.out⟩
       case measure=>simp [intOf]
    ·skip
     have hpm:∃ p,pmay s ((k:Int)+1) true=p:=⟨_,rfl⟩
     obtain ⟨p,hp⟩:=hpm
     have HP:=Lib.hid hp
     clear hp
     go_wp2_with fail
     refine (may_any s a cap ((k:Int)+1) true _ HSW.out).mono ?_
     rintro e w5 ⟨rfl,b5⟩
     rw [HP.out]
     cases p
     ·have HX:=Lib.hid (show lessAt pmay s t ((k:Int)+1) true=false from by unfold lessAt; rw [HP.out]; rfl)
      have B5:=Lib.hid (HI.out.trans (b5.mono HI.out.size))
      clear b5
      go_wp2
      go_roundw
      case rel=>exact ⟨1+1,by omega,by go_num,⟨fun _=>HM.out.1 (by omega),fun _=>HX.out⟩,B5.out⟩
      case measure=>simp [intOf]
     ·obtain ⟨e0,e1,e2,e3,e4⟩:=box5' ((b5.block _ hz1).trans HC5.out)
      have hq:∃ q,pmay t ((k:Int)+1) true=q:=⟨_,rfl⟩
      obtain ⟨q,hq⟩:=hq
      have HQ:=Lib.hid hq
      have HB5:=Lib.hid b5
      clear hq b5
      go_wp2_with fail
      refine (may_any t b cbp ((k:Int)+1) true _ (HTW.out.below HB5.out)).mono ?_
      rintro e w6 ⟨rfl,b6⟩
      rw [HQ.out]
      have B6:=Lib.hid (HI.out.trans ((HB5.out.trans (b6.mono HB5.out.size)).mono HI.out.size))
      clear b6
      cases q
      ·have HX:=Lib.hid (show lessB pmay s t=true from less_true (b:=true) h4 (by unfold lessAt; rw [HP.out,HQ.out]; rfl))
       go_wp2
       go_ret
       exact ⟨ret_bool HX.out.symm,HBW.out.trans (((bal wo _).trans (B6.out.mono (bal wo _).size)).mono HBW.out.size)⟩
      ·have HX:=Lib.hid (show lessAt pmay s t ((k:Int)+1) true=false from by unfold lessAt; rw [HP.out,HQ.out]; rfl)
       go_wp2
       go_roundw
       case rel=>exact ⟨1+1,by omega,by go_num,⟨fun _=>HM.out.1 (by omega),fun _=>HX.out⟩,B6.out⟩
       case measure=>simp [intOf]
    ·go_wp2
     go_roundw
     case rel=>exact ⟨k+1,by omega,by go_num,less_step HN.out (HM.out.1 (by omega)) (HM.out.2 (by omega)),HB.out.trans (((bal wo _).trans ((HI.out).mono (bal wo _).size)).mono HB.out.size)⟩
     case measure=>simp [intOf]; omega
  ·have:=less_false (fun j hj=>HN.out j (by omega))
   have HF:=Lib.hid this
   clear this
   go_wp2
   go_ret
   exact ⟨ret_bool HF.out.symm,HBW.out⟩
set_option maxRecDepth 100000 in
theorem liteIndexByte_any (s:ByteArray) (c:Int) (w:World) :
  Calls Tryz.prog 112 #[.string s,.int .u8 c] w fun e w'=>e=.returned (.int .i64 (Lib.indexByte s.data.toList c.toNat.toUInt8))∧w'=w:=by
 go_enter Tryz.func112,Tryz.ntmps112
 go_wp2
 rw [run_callFunc_extern Tryz.func147 (by kernel_rfl) (by kernel_rfl) (by kernel_rfl) (e:=Extern.BytealgIndexByte.indexByte) (by kernel_rfl),Lib.run_indexByteString]
 simp only [Result.andThen]
 rw [Oper.upon_value]
 go_wp2
 go_ret
 exact ⟨rfl,rfl⟩
theorem indexByte_any (s:ByteArray) (c:Int) (w:World) :
  Calls Tryz.prog 89 #[.string s,.int .u8 c] w fun e w'=>e=.returned (.int .i64 (Lib.indexByte s.data.toList c.toNat.toUInt8))∧w'=w:=by
 go_enter Tryz.func89,Tryz.ntmps89
 go_wp2_with fail
 refine (liteIndexByte_any s c _).mono ?_
 rintro e w' ⟨rfl,rfl⟩
 go_wp2
 go_ret
 exact ⟨rfl,rfl⟩
def smallB (s:ByteArray):Bool:=s.data.toList.all fun b=>decide (97≤b.toNat∧b.toNat≤122)
theorem small_at {s:ByteArray} {k:Nat} (h:k<s.size) (hb:¬ (97≤s[k].toNat∧s[k].toNat≤122)):smallB s=false:=by
 unfold smallB
 rw [List.all_eq_false]
 exact ⟨s[k],by rw [show s[k]=s.data.toList[k]'(by simpa using h) from rfl]; exact List.getElem_mem _,by simpa using hb⟩
theorem small_all {s:ByteArray} (h:∀ j (hj:j<s.size),97≤s[j].toNat∧s[j].toNat≤122):smallB s=true:=by
 unfold smallB
 rw [List.all_eq_true]
 intro x hx
 obtain ⟨j,hj,rfl⟩:=List.getElem_of_mem hx
 exact decide_eq_true (h j (by simpa using hj))
theorem decode_high {s:ByteArray} {k:Nat} (h:k<s.size) (hb:¬ s[k].toNat<128):128≤(Utf8.decode s k).1:=by
 have e:(s.get! k)=s[k]:=by cases s with | mk d=>exact getElem!_pos d k h
 unfold Utf8.decode
 simp only [Nat.add_zero,e]
 rw [if_neg hb]
 unfold Utf8.runeError
 repeat' split
 all_goals ((try simp only [Bool.and_eq_true,decide_eq_true_eq] at *); (try dsimp only at *); omega)
def badRune (r:Int):Bool:=decide (r<97∨122<r)
theorem check1_any (r:Int) (w:World) :
  Calls Tryz.prog 53 #[.int .i32 r] w fun e w'=>e=.returned (.bool (badRune r))∧w'=w:=by
 by_cases h:r<97
 ·have hb:=Lib.hid (show badRune r=true from by simp [badRune,h])
  go_enter Tryz.func53,Tryz.ntmps53
  go_wp2
  go_ret
  exact ⟨ret_bool hb.out.symm,rfl⟩
 ·have hb:=Lib.hid (show badRune r=decide (122<r) from by simp [badRune,h])
  go_enter Tryz.func53,Tryz.ntmps53
  go_wp2
  go_ret
  exact ⟨ret_bool hb.out.symm,rfl⟩
def IdxPost (s:ByteArray) (w:World) (e:Ending) (w':World):Prop:=∃ i:Int,e=.returned (.int .i64 i)∧(decide (0≤i)=!smallB s)∧Below w.heap.size w w'
set_option maxRecDepth 100000 in
set_option maxHeartbeats 1000000 in
theorem indexFunc_any (s:ByteArray) (w:World) :
  Calls Tryz.prog 114 #[.string s,.func (.func 53) #[] #[],.bool true] w (IdxPost s w):=by
 go_enter Tryz.func114,Tryz.ntmps114
 go_wp2
 go_loopg [] s.size (fun gf wx=>∃ pos:Nat,wx.heap[w.heap.size]?=some (.stringIter s pos)∧Below w.heap.size w wx∧(∀ j (hj:j<s.size),j<pos→97≤s[j].toNat∧s[j].toNat≤122)∧s.size=pos+gf)
 case atStart=>exact ⟨0,World.iter_heap w s 0,(Below.refl _ w).alloc (Nat.le_refl _) _,fun j hj h=>by omega,by omega⟩
 case round =>
  obtain ⟨pos,hit,hbw,hleft,hfu⟩:=hrel
  have HL:=Lib.hid hleft
  clear hleft
  by_cases hps:pos<s.size
  ·obtain ⟨g',rfl⟩:∃ g',gk=g'+1:=⟨gk - 1,by omega⟩
   have hnx:∀ ty,(Instr.next (.pointer (some ⟨w.heap.size,0,none⟩)) true ty).run Tryz.prog wr=_:=fun ty=>Lib.run_next_any_at wr w.heap.size s pos ty hit hps
   have hasc:s[pos].toNat<128→Utf8.decode s pos=(s[pos].toNat,1):=decode_ascii s pos hps
   have hhi:¬ s[pos].toNat<128→128≤(Utf8.decode s pos).1:=decode_high hps
   obtain ⟨R,hR⟩:∃ R,(Utf8.decode s pos).1=R:=⟨_,rfl⟩
   obtain ⟨K,hK⟩:∃ K,(Utf8.decode s pos).2=K:=⟨_,rfl⟩
   rw [hR,hK] at hnx
   rw [hR] at hhi
   have hit2:=Lib.iterAt_heap wr w.heap.size s pos (pos+K) hit
   have hbw2:=Lib.below_iterAt hbw (k:=w.heap.size) (Nat.le_refl _) s (pos+K)
   obtain ⟨W,hWd⟩:∃ W,wr.iterAt w.heap.size s (pos+K)=W:=⟨_,rfl⟩
   rw [hWd] at hnx hit2 hbw2
   by_cases hb:97≤s[pos].toNat∧s[pos].toNat≤122
   ·have hd:=hasc (by omega)
    rw [hd] at hR hK
    dsimp only at hR hK
    subst hR hK
    have HB:=Lib.hid (show badRune (s[pos].toNat:Int)=false from by simp [badRune]; omega)
    have HN:=Lib.hid (show ∀ j (hj:j<s.size),j<pos+1→97≤s[j].toNat∧s[j].toNat≤122 from fun j hj h=>by
     rcases (by omega:j<pos∨j=pos) with h | rfl
     ·exact HL.out j hj h
     ·exact hb)
    have HI:=Lib.hid hit2
    have HW:=Lib.hid hbw2
    clear hd hasc hhi hit hbw hit2 hbw2 hWd
    go_wp2_with fail
    refine (check1_any _ _).mono ?_
    rintro e W' ⟨rfl,rfl⟩
    rw [HB.out]
    go_wp2_with fail
    go_roundg g'
    case measure=>omega
    case rel=>exact ⟨pos+1,HI.out,HW.out,HN.out,by omega⟩
   ·have HB:=Lib.hid (show badRune (R:Int)=true from by
     by_cases ha:s[pos].toNat<128
     ·have hd:=hasc ha
      rw [hd] at hR
      dsimp only at hR
      subst hR
      simp [badRune]; omega
     ·have:=hhi ha
      simp [badRune]; omega)
    have HF:=Lib.hid (small_at hps hb)
    have HI:=Lib.hid hit2
    have HW:=Lib.hid hbw2
    clear hasc hhi hit hbw hit2 hbw2 hWd hR hK hb
    go_wp2_with fail
    refine (check1_any _ _).mono ?_
    rintro e W' ⟨rfl,rfl⟩
    rw [HB.out]
    go_wp2
    go_ret
    exact ⟨_,rfl,by rw [HF.out]; simp,HW.out⟩
  ·have hnx:∀ ty,(Instr.next (.pointer (some ⟨w.heap.size,0,none⟩)) true ty).run Tryz.prog wr=_:=fun ty=>Lib.run_next_end_at wr w.heap.size s pos ty hit hps
   have HF:=Lib.hid (show smallB s=true from small_all (fun j hj=>HL.out j hj (by omega)))
   have HW:=Lib.hid hbw
   clear hbw
   go_wp2
   go_ret
   exact ⟨_,rfl,by rw [HF.out]; simp,HW.out⟩
theorem containsFunc_any (s:ByteArray) (w:World) :
  Calls Tryz.prog 52 #[.string s,.func (.func 53) #[] #[]] w fun e w'=>e=.returned (.bool (!smallB s))∧Below w.heap.size w w':=by
 have idx:Calls Tryz.prog 92 #[.string s,.func (.func 53) #[] #[]] w (IdxPost s w):=by
  go_enter Tryz.func92,Tryz.ntmps92
  go_wp2_with fail
  refine (indexFunc_any s _).mono ?_
  rintro e w1 ⟨i,rfl,h1,h2⟩
  have H1:=Lib.hid h1
  clear h1
  go_wp2
  go_ret
  exact ⟨_,rfl,H1.out,h2⟩
 have IDX:=Lib.hid idx
 clear idx
 go_enter Tryz.func52,Tryz.ntmps52
 go_wp2_with fail
 refine IDX.out.mono ?_
 rintro e w1 ⟨i,rfl,h1,h2⟩
 have H1:=Lib.hid h1
 clear h1
 go_wp2
 go_ret
 exact ⟨ret_bool H1.out,h2⟩
def partsL (op:Nat):List UInt8 :=
 match op with
 | 1=>[107,110,115]
 | 2=>[107,110,115]
 | 3=>[107,116]
 | 4=>[107,116]
 | 5=>[107]
 | 6=>[107,110,116]
 | 7=>[97]
 | 8=>[97,100]
 | 9=>[97,100,119]
 | _=>[]
set_option maxHeartbeats 1000000 in
theorem parts_any (n:Nat) (h:1≤n∧n≤9) (w:World) :
  Calls Tryz.prog 90 #[.int .i64 n] w fun e w'=>e=.returned (.string ⟨(partsL n).toArray⟩)∧Below w.heap.size w w':=by
 rcases (by omega:n=1∨n=2∨n=3∨n=4∨n=5∨n=6∨n=7∨n=8∨n=9) with rfl | rfl | rfl | rfl | rfl | rfl | rfl | rfl | rfl
 all_goals
  go_enter Tryz.func90,Tryz.ntmps90
  go_wp2
  go_ret
  exact ⟨rfl,bal w _⟩
def hasB (n:Nat) (p:UInt8):Bool:=decide (0≤Lib.indexByte (partsL n) p)
theorem has_any (n:Nat) (h:1≤n∧n≤9) (c:Int) (p:UInt8) (hc:c.toNat.toUInt8=p) (w:World) :
  Calls Tryz.prog 50 #[.int .i64 n,.int .u8 c] w fun e w'=>e=.returned (.bool (hasB n p))∧Below w.heap.size w w':=by
 have HC:=Lib.hid hc
 clear hc
 go_enter Tryz.func50,Tryz.ntmps50
 go_wp2_with fail
 refine (parts_any n h _).mono ?_
 rintro e w1 ⟨rfl,b1⟩
 go_wp2_with fail
 refine (indexByte_any _ c _).mono ?_
 rintro e w2 ⟨rfl,rfl⟩
 rw [HC.out]
 go_wp2
 go_ret
 exact ⟨ret_bool rfl,b1⟩
def OwnT (B:Nat) (w:World) (v:Value) (l:List (Int × Int)):Prop:=w.ownsRow B 162 2 v l.length (pcells l)
theorem Tryz.infoTell:(Tryz.prog.info? 162).map (fun i=>(i.zero,i.size,i.bytes))=some (some (.agg #[.int .i64 0,.int .i64 0]),2,16):=by kernel_rfl
theorem OwnT.shape {B:Nat} {w:World} {v:Value} {l:List (Int × Int)} (h:OwnT B w v l):∃ a cap,v=.slice a l.length cap∧Pairs w.heap.size w a l:=by
 obtain ⟨h1,h2⟩:=h
 rcases h2 with ⟨rfl,hn⟩ | ⟨g,cap,cur,rfl,hg,hh,hc,hm,hs,ht⟩
 ·have:l=[]:=List.length_eq_zero_iff.1 hn
  subst this
  exact ⟨none,0,rfl,Pairs.nil _ _ _⟩
 ·refine ⟨_,cap,rfl,fun i hi=>?_⟩
  have hlt:g<w.heap.size:=(Array.getElem?_eq_some_iff.1 hh).1
  obtain ⟨p1,p2⟩:=pcells_at l i hi
  have hcell:∀ j,j<l.length*2→w.cell? ⟨g,0+j,none⟩=(pcells l)[j]?:=by
   intro j hj
   rw [← ht,List.getElem?_take_of_lt hj]
   simp [World.cell?,hh]
  exact ⟨g,0,rfl,hlt,(hcell _ (by omega)).trans p1,by rw [show 0+i*2+1=0+(i*2+1) from by omega]; exact (hcell _ (by omega)).trans p2⟩
theorem OwnT.mono {B C:Nat} {w:World} {v:Value} {l:List (Int × Int)} (h:OwnT C w v l) (hB:B≤C):OwnT B w v l:=by
 obtain ⟨h1,h2⟩:=h
 refine ⟨h1,?_⟩
 rcases h2 with h2 | ⟨g,cap,cur,e1,e2,e3⟩
 ·exact .inl h2
 ·exact .inr ⟨g,cap,cur,e1,by omega,e3⟩
theorem OwnT.blk {B:Nat} {w:World} {v:Value} {l:List (Int × Int)} (h:OwnT B w v l):∀ k,v.ownBlock=some k→B≤k:=by
 obtain ⟨_,h2⟩:=h
 rcases h2 with ⟨rfl,_⟩ | ⟨g,cap,cur,rfl,hg,_⟩
 ·intro k hk; cases hk
 ·intro k hk; simp [Value.ownBlock] at hk; omega
theorem OwnT.below {B:Nat} {w w':World} {v:Value} {l:List (Int × Int)} (h:OwnT B w v l) (hb:Below w.heap.size w w'):OwnT B w' v l:=by
 obtain ⟨h1,h2⟩:=h
 refine ⟨h1,?_⟩
 rcases h2 with h2 | ⟨g,cap,cur,e1,e2,e3,e4⟩
 ·exact .inl h2
 ·exact .inr ⟨g,cap,cur,e1,e2,by rw [hb.block g ((Array.getElem?_eq_some_iff.1 e3).1)]; exact e3,e4⟩
theorem told_snoc (l:List Int) (what:Int) (k:Nat) (h:k<l.length):toldL (l.take (k+1)) what=toldL (l.take k) what ++ [(l[k],what)]:=by
 rw [List.take_succ_eq_append_getElem h]; unfold toldL; rw [List.map_append]; rfl
set_option maxHeartbeats 1000000 in
theorem told_any (l:List Int) (a:Option Addr) (cap:Nat) (what:Int) (w:World) (hl:l.length≤100) (hr:Ints w.heap.size w a l) :
  Calls Tryz.prog 120 #[.slice a l.length cap,.int .i64 what] w fun e w'=>∃ v,e=.returned v∧OwnT w.heap.size w' v (toldL l what)∧Below w.heap.size w w':=by
 obtain ⟨i0,hi,hz0,hz1,hz2⟩:=info_parts Tryz.infoTell
 go_enter Tryz.func120,Tryz.ntmps120
 go_wp2
 go_loopw [5,10] (fun v i wr=>∃ k:Nat,k≤l.length∧i=.int .i64 k∧OwnT w.heap.size wr v (toldL (l.take k) what)∧Below w.heap.size w wr) (fun _ i _=>l.length - (intOf i).toNat)
 case atStart=>exact ⟨0,by omega,rfl,⟨rfl,.inl ⟨rfl,rfl⟩⟩,Below.refl _ _⟩
 case round =>
  obtain ⟨k,hk,rfl,hown,hb⟩:=hrel
  have HOWN:=Lib.hid hown
  have HBLK:=Lib.hid hown.blk
  clear hown
  have hs:=hb.size
  have hol:(toldL (l.take k) what).length≤k:=by simp [toldL]; omega
  by_cases hlt:k<l.length
  ·obtain ⟨b,o,rfl,hbs,h1⟩:=hr k hlt
   have c1:=(hb.cell (p:=⟨b,o+k,none⟩) hbs).trans h1
   have HE:=Lib.hid (told_snoc l what k hlt)
   clear hr h1
   go_wp2_with (at_builtin; refine wpList_append_own _ rfl _ _ 78 rfl w.heap.size 162 i0 (.agg #[.int .i64 0,.int .i64 0]) 2 16 Tryz.underlying78 hi hz0 hz1 hz2 rfl (by decide) _ _ _ rfl (HOWN.out.alloc _) ⟨wr.heap.size,0,none⟩ 1 1 [.int .i64 l[k],.int .i64 what] rfl rfl ?c1 ?c2 ?c3 ?c4 ?c5 ?_)
   case c1 =>
    intro j u hj
    match j,hj with
    | 0,hj=>simp at hj; subst hj; simp [Addr.add]
    | 1,hj=>simp at hj; subst hj; simp [Addr.add]
   case c2=>intro u hu; simp at hu; rcases hu with rfl | rfl <;> rfl
   case c3=>unfold maxLen; omega
   case c4=>omega
   case c5=>simp; omega
   intro v' w1 hown1 hg1 _
   have hb1:Below w.heap.size w w1:=(hb.alloc (by omega) _).grown hg1 (by simp; omega) HBLK.out
   have HO1:=Lib.hid hown1
   clear hown1 hg1
   go_wp2
   go_roundw
   case rel=>exact ⟨k+1,by omega,by go_num,by rw [HE.out]; simpa [OwnT,pcells] using HO1.out,hb1⟩
   case measure=>simp [intOf]; omega
  ·go_wp2
   go_ret
   exact ⟨_,rfl,by rw [← List.take_of_length_le (show l.length≤k by omega)]; exact HOWN.out,hb⟩
set_option maxHeartbeats 1000000 in
theorem rtold_any (l:List Int) (a:Option Addr) (cap:Nat) (what:Int) (w:World) (hl:l.length≤100) (hr:Ints w.heap.size w a l) :
  Calls Tryz.prog 72 #[.slice a l.length cap,.int .i64 what] w fun e w'=>∃ v,e=.returned v∧OwnT w.heap.size w' v (toldL l what)∧Below w.heap.size w w':=by
 obtain ⟨i0,hi,hz0,hz1,hz2⟩:=info_parts Tryz.infoTell
 go_enter Tryz.func72,Tryz.ntmps72
 go_wp2
 go_loopw [5,6] (fun v i wr=>∃ k:Nat,k≤l.length∧i=.int .i64 k∧OwnT w.heap.size wr v (toldL (l.take k) what)∧Below w.heap.size w wr) (fun _ i _=>l.length - (intOf i).toNat)
 case atStart=>exact ⟨0,by omega,rfl,⟨rfl,.inl ⟨rfl,rfl⟩⟩,Below.refl _ _⟩
 case round =>
  obtain ⟨k,hk,rfl,hown,hb⟩:=hrel
  have HOWN:=Lib.hid hown
  have HBLK:=Lib.hid hown.blk
  clear hown
  have hs:=hb.size
  have hol:(toldL (l.take k) what).length≤k:=by simp [toldL]; omega
  by_cases hlt:k<l.length
  ·obtain ⟨b,o,rfl,hbs,h1⟩:=hr k hlt
   have c1:=(hb.cell (p:=⟨b,o+k,none⟩) hbs).trans h1
   have HE:=Lib.hid (told_snoc l what k hlt)
   clear hr h1
   go_wp2_with (at_builtin; refine wpList_append_own _ rfl _ _ 78 rfl w.heap.size 162 i0 (.agg #[.int .i64 0,.int .i64 0]) 2 16 Tryz.underlying78 hi hz0 hz1 hz2 rfl (by decide) _ _ _ rfl (HOWN.out.alloc _) ⟨wr.heap.size,0,none⟩ 1 1 [.int .i64 l[k],.int .i64 what] rfl rfl ?c1 ?c2 ?c3 ?c4 ?c5 ?_)
   case c1 =>
    intro j u hj
    match j,hj with
    | 0,hj=>simp at hj; subst hj; simp [Addr.add]
    | 1,hj=>simp at hj; subst hj; simp [Addr.add]
   case c2=>intro u hu; simp at hu; rcases hu with rfl | rfl <;> rfl
   case c3=>unfold maxLen; omega
   case c4=>omega
   case c5=>simp; omega
   intro v' w1 hown1 hg1 _
   have hb1:Below w.heap.size w w1:=(hb.alloc (by omega) _).grown hg1 (by simp; omega) HBLK.out
   have HO1:=Lib.hid hown1
   clear hown1 hg1
   go_wp2
   go_roundw
   case rel=>exact ⟨k+1,by omega,by go_num,by rw [HE.out]; simpa [OwnT,pcells] using HO1.out,hb1⟩
   case measure=>simp [intOf]; omega
  ·go_wp2
   go_ret
   exact ⟨_,rfl,by rw [← List.take_of_length_le (show l.length≤k by omega)]; exact HOWN.out,hb⟩
theorem free_any (g:Int) (l:List (Int × Int)) (t h:Int) (st:Bool) (a:Option Addr) (cap:Nat) (w:World) :
  Calls Tryz.prog 122 #[.agg #[.int .i64 g,.slice a l.length cap,.int .i64 t,.int .i64 h,.bool st]] w fun e w'=>e=.returned (.agg #[.int .i64 g,.slice a l.length cap,.int .i64 0,.int .i64 0,.bool st])∧Below w.heap.size w w':=by
 go_enter Tryz.func122,Tryz.ntmps122
 go_wp2
 exact bodyPost_ret (v:=.agg #[.int .i64 g,.slice a l.length cap,.int .i64 0,.int .i64 0,.bool st]) (by simp [results,Tryz.results122,go_sem]) rfl ⟨rfl,(bal w _).alloc (by simp) _⟩
theorem freed_any (g:Int) (l:List (Int × Int)) (t h:Int) (st:Bool) (a:Option Addr) (cap:Nat) (w:World) :
  Calls Tryz.prog 71 #[.agg #[.int .i64 g,.slice a l.length cap,.int .i64 t,.int .i64 h,.bool st]] w fun e w'=>e=.returned (.agg #[.int .i64 g,.slice a l.length cap,.int .i64 0,.int .i64 0,.bool st])∧Below w.heap.size w w':=by
 go_enter Tryz.func71,Tryz.ntmps71
 go_wp2
 exact bodyPost_ret (v:=.agg #[.int .i64 g,.slice a l.length cap,.int .i64 0,.int .i64 0,.bool st]) (by simp [results,Tryz.results71,go_sem]) rfl ⟨rfl,(bal w _).alloc (by simp) _⟩
theorem taken_any (g:Int) (l:List (Int × Int)) (t h:Int) (st:Bool) (a:Option Addr) (cap:Nat) (kind who:Int) (w:World) :
  Calls Tryz.prog 74 #[.agg #[.int .i64 g,.slice a l.length cap,.int .i64 t,.int .i64 h,.bool st],.int .i64 kind,.int .i64 who] w fun e w'=>e=.returned (.agg #[.int .i64 g,.slice a l.length cap,.int .i64 kind,.int .i64 (if 7≤kind then 0 else who),.bool st])∧Below w.heap.size w w':=by
 by_cases hk:7≤kind
 ·rw [if_pos hk]
  go_enter Tryz.func74,Tryz.ntmps74
  go_wp2
  exact bodyPost_ret (v:=.agg #[.int .i64 g,.slice a l.length cap,.int .i64 kind,.int .i64 0,.bool st]) (by simp [results,Tryz.results74,go_sem]) rfl ⟨rfl,(bal w _).alloc (by simp) _⟩
 ·rw [if_neg hk]
  go_enter Tryz.func74,Tryz.ntmps74
  go_wp2
  exact bodyPost_ret (v:=.agg #[.int .i64 g,.slice a l.length cap,.int .i64 kind,.int .i64 who,.bool st]) (by simp [results,Tryz.results74,go_sem]) rfl ⟨rfl,(bal w _).alloc (by simp) _⟩
set_option maxHeartbeats 1000000 in
set_option maxRecDepth 100000 in
theorem samestate_true (s:St) (a b:Option Addr) (c d:Nat) (w:World) (ha:StR w s a) (hb:StR w s b) :
  Calls Tryz.prog 34 #[stV s a c,stV s b d] w fun e w'=>e=.returned (.bool true)∧Below w.heap.size w w':=by
 obtain ⟨g,l,t,h,st⟩:=s
 obtain ⟨hl,ha⟩:=ha
 obtain ⟨_,hb⟩:=hb
 unfold maxLen at hl
 dsimp only at hl ha hb
 have q1:(g != g)=false:=by simp
 have q2:(t != t)=false:=by simp
 have q3:(h != h)=false:=by simp
 have q4:(st != st)=false:=by simp
 have q5:((l.length:Int) != (l.length:Int))=false:=by simp
 go_enter Tryz.func34,Tryz.ntmps34
 go_wp2
 go_loopw [5] (fun i wr=>∃ k:Nat,k≤l.length∧i=.int .i64 k∧Below (w.heap.size+2) ((w.alloc (.cells #[.int .i64 g,.slice a l.length c,.int .i64 t,.int .i64 h,.bool st] 35)).alloc (.cells #[.int .i64 g,.slice b l.length d,.int .i64 t,.int .i64 h,.bool st] 35)) wr) (fun i _=>l.length - (intOf i).toNat)
 case atStart=>exact ⟨0,by omega,rfl,Below.refl _ _⟩
 case round =>
  obtain ⟨k,hk,rfl,hbw⟩:=hrel
  obtain ⟨⟨e0,e1,e2,e3,e4⟩,f0,f1,f2,f3,f4⟩:=box5 hbw (b:=w.heap.size) (by omega) (heap_alloc2_old w _ _)
  obtain ⟨⟨g0,g1,g2,g3,g4⟩,k0,k1,k2,k3,k4⟩:=box5 hbw (b:=w.heap.size+1) (by omega) (heap_alloc2_new w _ _)
  have b0:Below w.heap.size w wr:=bover (bover hbw (by simp)) (by first | (simp; done) | omega)
  by_cases hlt:k<l.length
  ·obtain ⟨b1,o1,rfl,hs1,h11,h12⟩:=ha k hlt
   obtain ⟨b2,o2,rfl,hs2,h21,h22⟩:=hb k hlt
   have c11:=(b0.cell (p:=⟨b1,o1+k*2,none⟩) hs1).trans h11
   have c12:=(b0.cell (p:=⟨b1,o1+k*2+1,none⟩) hs1).trans h12
   have c21:=(b0.cell (p:=⟨b2,o2+k*2,none⟩) hs2).trans h21
   have c22:=(b0.cell (p:=⟨b2,o2+k*2+1,none⟩) hs2).trans h22
   clear ha hb h11 h12 h21 h22
   go_wp2
   go_quiet (fail)
   go_wp2
   go_roundw
   case rel=>exact ⟨k+1,by omega,by go_num,below_drewN hbw _⟩
   case measure=>simp [intOf]; omega
  ·go_wp2
   go_ret
   exact ⟨rfl,b0⟩
end Go.Proofs.YtajegiifabfcjaaGreatDoor
namespace Go.Proofs.YtajegiifabfcjaaGreatDoor
open Go.RowKit Go.Sort
theorem others_x (g:Int) (l:List (Int × Int)) (t h:Int) (st:Bool) (a:Option Addr) (cap:Nat) (who:Int) (w:World) (hr:StR w ⟨g,l,t,h,st⟩ a) (hl:l.length≤100) (O:List Int) (hO:othersL who l=O) :
  Calls Tryz.prog 121 #[.agg #[.int .i64 g,.slice a l.length cap,.int .i64 t,.int .i64 h,.bool st],.int .i64 who] w fun e w'=>∃ a' c',e=.returned (.slice a' O.length c')∧Ints w'.heap.size w' a' O∧Below w.heap.size w w':=by
 subst hO
 refine (others_any ⟨g,l,t,h,st⟩ a cap who w hr hl).mono ?_
 rintro e w' ⟨v,rfl,hown,hb⟩
 obtain ⟨a',c',rfl,hi⟩:=hown.shape
 exact ⟨a',c',rfl,hi,hb⟩
end Go.Proofs.YtajegiifabfcjaaGreatDoor
namespace Go.Proofs.YtajegiifabfcjaaGreatDoor
open Go.RowKit
theorem at_end (w:World) (o:Obj) {n:Nat} (h:n=w.heap.size):(w.alloc o).heap[n]?=some o:=by subst h; exact heap_alloc_new _ _
theorem at_old {w:World} (o:Obj) {n:Nat} {p:Obj} (h:w.heap[n]?=some p):(w.alloc o).heap[n]?=some p:=by
 rw [Below.heap_alloc _ _ _ (Array.getElem?_eq_some_iff.1 h).1]; exact h
end Go.Proofs.YtajegiifabfcjaaGreatDoor
namespace Go.Proofs.YtajegiifabfcjaaGreatDoor
open Go.RowKit Go.Sort
set_option maxRecDepth 100000 in
theorem oknown_any (s:St) (a:Option Addr) (cap:Nat) (c:Cmd) (w:World) (hr:StR w s a) :
  Calls Tryz.prog 116 #[stV s a cap,cmdV c] w fun e w'=>e=.returned (.bool (pknown s c))∧Below w.heap.size w w':=by
 have hq:=fun (o p:Obj)=>bregrown (Below.refl ((w.alloc o).alloc p).heap.size ((w.alloc o).alloc p))
 have hqr:∀ o p d os,StR (Sort.grow (redrawn ((w.alloc o).alloc p) d) os) s a:=fun o p d os=>(hr.below ((bal w o).alloc (by simp) p)).below (below_regrown _ d os)
 have PK:=Lib.hid (show pknown s c=(decide (0<c.key) && decide (keyOf s.regs c.who=c.key)) from rfl)
 by_cases hk:0<c.key
 ·have hkb:decide (0<c.key)=true:=by simpa using hk
  go_enter Tryz.func116,Tryz.ntmps116
  go_wp2
  refine wp_region_quiet_below (by kernel_rfl) (by kernel_rfl) ?_
  repeat (go_big_quiet_step (exact Calls.regrown_of (key_any s a cap c.who _ (hqr _ _ _ _))))
  refine wpQuiet_nil ?_
  rintro w' ⟨⟨dq,osq⟩,rfl⟩
  go_wp2
  go_ret
  exact ⟨ret_bool (by rw [PK.out,hkb,Bool.true_and]; rfl),((bal w _).alloc (by simp) _).trans ((below_regrown _ dq osq).mono (by simp; omega))⟩
 ·have hkb:decide (0<c.key)=false:=by simpa using hk
  go_enter Tryz.func116,Tryz.ntmps116
  go_wp2
  refine wp_region_quiet_below (by kernel_rfl) (by kernel_rfl) ?_
  repeat (go_big_quiet_step (exact Calls.regrown_of (key_any s a cap c.who _ (hqr _ _ _ _))))
  refine wpQuiet_nil ?_
  rintro w' ⟨⟨dq,osq⟩,rfl⟩
  go_wp2
  go_ret
  exact ⟨ret_bool (by rw [PK.out,hkb]; rfl),((bal w _).alloc (by simp) _).trans ((below_regrown _ dq osq).mono (by simp; omega))⟩
theorem bal3' (w:World) (o p q:Obj):Below w.heap.size w (((w.alloc o).alloc p).alloc q):=((bal w o).alloc (by simp) p).alloc (by simp; omega) q
abbrev stT (s:St) (a:Option Addr) (cap:Nat) (t h:Int):Value:=.agg #[.int .i64 s.gen,.slice a s.regs.length cap,.int .i64 t,.int .i64 h,.bool s.stays]
def ResPost (s:St) (a:Option Addr) (cap:Nat) (c:Cmd) (w:World) (e:Ending) (w':World):Prop :=
 e=.returned (.tuple #[stT s a cap (preserve s c).1.typ (preserve s c).1.holder,errV (preserve s c).2])∧Below w.heap.size w w'
theorem ResPost.mk {s:St} {a:Option Addr} {cap:Nat} {c:Cmd} {w w':World} {e:Ending} {t:St} {f:Int} (hp:preserve s c=(t,f)) (he:e=.returned (.tuple #[stT s a cap t.typ t.holder,errV f])) (hb:Below w.heap.size w w'):ResPost s a cap c w e w':=by
 unfold ResPost; rw [hp]; exact ⟨he,hb⟩
set_option maxRecDepth 100000 in
set_option maxHeartbeats 1000000 in
theorem reserve_any (s:St) (a:Option Addr) (cap:Nat) (c:Cmd) (w:World) (hr:StR w s a) :
  Calls Tryz.prog 118 #[stV s a cap,cmdV c] w (ResPost s a cap c w):=by
 have hr3:∀ o p q,StR (((w.alloc o).alloc p).alloc q) s a:=fun o p q=>((hr.below (bal w o)).below (bal _ p)).below (bal _ q)
 have HR:=Lib.hid hr3
 clear hr3 hr
 by_cases h0:0<s.typ
 ·have P0:=Lib.hid (show preserve s c=(if holds s c.who=true∧s.typ=c.typ then (s,0) else (s,4)) from by unfold preserve; rw [if_pos h0])
  cases hh:holds s c.who
  ·have P1:=Lib.hid (P0.out.trans (if_neg (by rw [hh]; simp)))
   clear P0
   go_enter Tryz.func118,Tryz.ntmps118
   go_wp2_with fail
   refine (holds_any s a cap c.who _ (HR.out _ _ _)).mono ?_
   rintro e w1 ⟨rfl,b1⟩
   rw [hh]
   clear hh
   obtain ⟨hcc,hf⟩:=bcell b1
   go_wp2
   refine bodyPost_ret (v:=.tuple #[.agg #[.int .i64 s.gen,.slice a s.regs.length cap,.int .i64 s.typ,.int .i64 s.holder,.bool s.stays],.iface 95 (.int .i64 4)]) (by simp [results,Tryz.results118,go_sem, *]) rfl ?_
   refine ResPost.mk P1.out rfl ?_
   repeat (first | with_reducible refine Below.setCell ?_ (by simp <;> omega) _ | exact (bal3' w _ _ _).trans (b1.mono (by simp; omega)))
  ·by_cases ht:s.typ=c.typ
   ·have P1:=Lib.hid (P0.out.trans (if_pos ⟨hh,ht⟩))
    have htb:(s.typ == c.typ)=true:=by simp [ht]
    clear P0 ht
    go_enter Tryz.func118,Tryz.ntmps118
    go_wp2_with fail
    refine (holds_any s a cap c.who _ (HR.out _ _ _)).mono ?_
    rintro e w1 ⟨rfl,b1⟩
    rw [hh]
    clear hh
    obtain ⟨hcc,hf⟩:=bcell b1
    go_wp2
    refine bodyPost_ret (v:=.tuple #[.agg #[.int .i64 s.gen,.slice a s.regs.length cap,.int .i64 s.typ,.int .i64 s.holder,.bool s.stays],.nilIface]) (by simp [results,Tryz.results118,go_sem, *]) rfl ?_
    refine ResPost.mk P1.out rfl ?_
    repeat (first | with_reducible refine Below.setCell ?_ (by simp <;> omega) _ | exact (bal3' w _ _ _).trans (b1.mono (by simp; omega)))
   ·have P1:=Lib.hid (P0.out.trans (if_neg (fun x=>ht x.2)))
    have htb:(s.typ == c.typ)=false:=by simp [ht]
    clear P0 ht
    go_enter Tryz.func118,Tryz.ntmps118
    go_wp2_with fail
    refine (holds_any s a cap c.who _ (HR.out _ _ _)).mono ?_
    rintro e w1 ⟨rfl,b1⟩
    rw [hh]
    clear hh
    obtain ⟨hcc,hf⟩:=bcell b1
    go_wp2
    refine bodyPost_ret (v:=.tuple #[.agg #[.int .i64 s.gen,.slice a s.regs.length cap,.int .i64 s.typ,.int .i64 s.holder,.bool s.stays],.iface 95 (.int .i64 4)]) (by simp [results,Tryz.results118,go_sem, *]) rfl ?_
    refine ResPost.mk P1.out rfl ?_
    repeat (first | with_reducible refine Below.setCell ?_ (by simp <;> omega) _ | exact (bal3' w _ _ _).trans (b1.mono (by simp; omega)))
 ·have P1:=Lib.hid (show preserve s c=(s.take c.typ c.who,0) from by unfold preserve; rw [if_neg h0])
  have TH:=Lib.hid (show (s.take c.typ c.who).holder=if allT c.typ then 0 else c.who from rfl)
  clear HR
  cases hal:allT c.typ
  ·have TH1:=Lib.hid (show (s.take c.typ c.who).holder=c.who from by rw [TH.out]; simp [hal])
   clear TH
   go_enter Tryz.func118,Tryz.ntmps118
   go_wp2
   go_region
   go_wp2_with fail
   refine (all_any ⟨s.gen,s.regs,c.typ,c.who,s.stays⟩ a cap _).mono ?_
   rintro e w1 ⟨rfl,b1⟩
   dsimp only
   rw [hal]
   clear hal
   obtain ⟨hcc,hf⟩:=bcell b1
   go_wp2
   refine bodyPost_ret (v:=.tuple #[.agg #[.int .i64 s.gen,.slice a s.regs.length cap,.int .i64 c.typ,.int .i64 c.who,.bool s.stays],.nilIface]) (by simp [results,Tryz.results118,go_sem, *]) rfl ?_
   refine ResPost.mk P1.out (by rw [TH1.out]; rfl) ?_
   repeat (first | with_reducible refine Below.setCell ?_ (by simp <;> omega) _ | exact (bal3' w _ _ _).trans ((((Below.refl _ _).drew).trans b1).mono (by simp; omega)))
  ·have TH1:=Lib.hid (show (s.take c.typ c.who).holder=0 from by rw [TH.out]; simp [hal])
   clear TH
   go_enter Tryz.func118,Tryz.ntmps118
   go_wp2
   go_region
   go_wp2_with fail
   refine (all_any ⟨s.gen,s.regs,c.typ,c.who,s.stays⟩ a cap _).mono ?_
   rintro e w1 ⟨rfl,b1⟩
   dsimp only
   rw [hal]
   clear hal
   obtain ⟨⟨d0,d1,d2,d3,d4⟩,f0,f1,f2,f3,f4⟩:=box5 b1 (b:=w.heap.size) (by simp; omega) (heap3 w _ _ _).1
   obtain ⟨⟨e0,e1,e2,e3,e4⟩,g0,g1,g2,g3,g4⟩:=box5 b1 (b:=w.heap.size+1+1) (by simp) (heap3 w _ _ _).2.2
   go_wp2
   refine bodyPost_ret (v:=.tuple #[.agg #[.int .i64 s.gen,.slice a s.regs.length cap,.int .i64 c.typ,.int .i64 0,.bool s.stays],.nilIface]) (by simp [results,Tryz.results118,go_sem, *]) rfl ?_
   refine ResPost.mk P1.out (by rw [TH1.out]; rfl) ?_
   repeat (first | with_reducible refine Below.setCell ?_ (by simp <;> omega) _ | exact (bal3' w _ _ _).trans ((((Below.refl _ _).drew).trans b1).mono (by simp; omega)))
end Go.Proofs.YtajegiifabfcjaaGreatDoor
