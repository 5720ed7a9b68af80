/-
  TopHeard: the walk. (Printed in part by gen_heard.py.)
-/
import Derived.Test.YtajegiifabfcjaaGreatDoorTTgK
import Derived.Test.YtajegiifabfcjaaGreatDoorTHeardP
namespace Go.Proofs.YtajegiifabfcjaaGreatDoor
open Go.RowKit Go.Sort
theorem asked_b {t:Tg} {c:Cmd} {u:Tg} {a:Ans} (o:Asked t c u a):u.b=t.b:=by
 cases o with
 | no=>rfl
 | busy=>rfl
 | read=>rfl
 | refused=>rfl
 | full _ _ u hu=>rcases hu with ⟨-,rfl⟩ | ⟨-,rfl,-⟩ <;> rfl
 | write _ _ u hu=>rcases hu with ⟨-,rfl⟩ | ⟨-,rfl,-⟩ <;> rfl
theorem TJ.six {n:Nat} {S:Cel→Prop} {B:Int} {t:Tg} (h:TJ n S B t) (hB:B+2<1000000000000000) {c:Cmd} (hf:cmdFault c=0) {r:Tg × ByteArray × Int × Int} (hr:t.askN n c 6=r):∃ S',TJ n S' (B+2) r.1:=by
 rw [askN_six h.ti hf] at hr
 subst hr
 have hd:TJ n S B (t.deaf c.who):=⟨h.ti.deaf _,h.sz⟩
 obtain ⟨S',-,h'⟩:=hd.ask hB c
 exact ⟨S',h'⟩
def HeardB (c:Cmd) (who:Int) (v:Value):Prop:=∃ B:Bool,v=.bool B∧(B=false→cmdFault c=0∧(c.op=5∨c.op=6)∧(1≤who∧who≤4)∧who≠c.who)
theorem HeardB.yes (c:Cmd) (who:Int):HeardB c who (.bool true):=⟨true,rfl,fun h=>by cases h⟩
theorem HeardB.no {c:Cmd} {who:Int} (h1:cmdFault c=0) (h2:c.op=5∨c.op=6) (h3:¬ who<1) (h4:¬ 4<who) (h5:who≠c.who):HeardB c who (.bool false):=⟨false,rfl,fun _=>⟨h1,h2,by omega,h5⟩⟩
set_option maxRecDepth 100000 in
set_option maxHeartbeats 40000000 in
theorem topheard_walk (l:List Ac) (a:Option Addr) (cap:Nat) (c:Cmd) (who:Int) (w:World) (hl:l.length≤maxLen) (hr:ActsAt w a l) (hs:c.data.size≤maxLen∧c.want.size≤maxLen) (tt:Tabs w) :
  Calls Tryz.prog 4 #[.slice a l.length cap,cmdV c,.int .i64 who] w fun e w'=>e=.returned (.bool true)∧Below w.heap.size w w':=by
 have TT:=Lib.hid tt
 have HS:=Lib.hid (show c.data.size≤9223372036854775807∧c.want.size≤9223372036854775807 from by unfold maxLen at hs; omega)
 obtain ⟨w1,hw1⟩:∃ w1,w1=w.alloc (.cells #[.int .i64 c.op,.int .i64 c.who,.int .i64 c.key,.int .i64 c.new,.int .i64 c.typ,.int .i64 c.at',.bool c.stays,.string c.data,.string c.want] 37):=⟨_,rfl⟩
 have B1:=Lib.hid (show RowKit.Below w.heap.size w w1 from hw1▸bal w _)
 have R1:=Lib.hid (show w1.heap[w.heap.size]?=some (.cells #[.int .i64 c.op,.int .i64 c.who,.int .i64 c.key,.int .i64 c.new,.int .i64 c.typ,.int .i64 c.at',.bool c.stays,.string c.data,.string c.want] 37 (0,0)) from hw1▸heap_alloc_new w _)
 have HA:=(Array.getElem?_eq_some_iff.1 R1.out).1
 have WK:=Lib.hid (works_any w1 (TT.out.on B1.out))
 have PLAYED:=Lib.hid (fun w' (b:RowKit.Below w.heap.size w w')=>played_any l a cap w' hl (hr.below b) (TT.out.on b))
 clear hr hs tt
 go_enter Tryz.func4,Tryz.ntmps4
 go_upto_region 1 with fail
 rw [← hw1]
 clear hw1
 go_wp2_with fail
 refine WK.out.mono ?_
 rintro e w2 ⟨rfl,b2⟩
 have B2:=Lib.hid (show RowKit.Below w.heap.size w w2 from B1.out.trans (b2.mono B1.out.size))
 have R2:=Lib.hid ((b2.block _ HA).trans R1.out)
 have PL:=Lib.hid (PLAYED.out w2 B2.out)
 obtain ⟨A,hA⟩:∃ A,w.heap.size=A:=⟨_,rfl⟩
 have LA:=Lib.hid (show A<w2.heap.size from by have:=b2.size; omega)
 rw [hA] at R2 ⊢
 clear b2 WK PLAYED R1 B1 HA hA
 go_wp2_with fail
 refine PL.out.mono ?_
 rintro e w3 (⟨rfl,b3⟩ | ⟨D,T,t,S,rfl,h3,j3⟩)
 ·have B3:=Lib.hid (show RowKit.Below w.heap.size w w3 from B2.out.trans (b3.mono B2.out.size))
  clear b3 PL
  go_wp2
  go_ret
  exact ⟨rfl,B3.out⟩
 have H3:=Lib.hid h3
 have J3:=Lib.hid j3
 have R3:=Lib.hid ((h3.below.block A LA.out).trans R2.out)
 have B3:=Lib.hid (show RowKit.Below w.heap.size w w3 from B2.out.trans (h3.below.mono B2.out.size))
 have CK:=Lib.hid (ccheck_any c w3 HS.out)
 clear h3 j3 PL
 obtain ⟨q0,q1,q2,q3,q4,q5,q6,q7,q8⟩:=cells9 R3.out
 have HK:=Lib.hid (show RowKit.Below w3.heap.size w3 w3 from Below.refl _ _)
 go_upto_region 5 with fail
 go_cut [62] (fun v wx=>HeardB c who v∧RowKit.Below w3.heap.size w3 wx)
 case first =>
  go_wp2_with fail
  refine CK.out.mono ?_
  rintro e w4 ⟨rfl,b4⟩
  have B4:=Lib.hid b4
  have R4:=Lib.hid ((b4.block A (Nat.lt_of_lt_of_le LA.out H3.out.below.size)).trans R3.out)
  clear b4 CK q0 q1 q2 q3 q4 q5 q6 q7 q8
  by_cases hf:cmdFault c=0
  case neg =>
   rw [errV_some hf]
   clear hf
   go_wp2_with fail
   go_meet
   exact ⟨HeardB.yes _ _,B4.out⟩
  rw [hf,errV_nil]
  have HF:=Lib.hid hf
  clear hf
  obtain ⟨q0,q1,q2,q3,q4,q5,q6,q7,q8⟩:=cells9 R4.out
  by_cases h6:c.op=6
  ·have t6:(c.op != 6)=false:=by simp [h6]
   have O6:=Lib.hid h6
   clear h6
   by_cases h1:who<1
   ·skip
    go_wp2_with fail
    go_meet
    exact ⟨HeardB.yes _ _,B4.out⟩
   by_cases h4:4<who
   ·skip
    go_wp2_with fail
    go_meet
    exact ⟨HeardB.yes _ _,B4.out⟩
   by_cases hc:who=c.who
   ·have hcb:(who == c.who)=true:=by simpa using hc
    clear hc
    go_wp2_with fail
    go_meet
    exact ⟨HeardB.yes _ _,B4.out⟩
   have hcb:(who == c.who)=false:=by simpa using hc
   have NO:=Lib.hid (HeardB.no HF.out (.inr O6.out) h1 h4 hc)
   clear hc
   go_wp2_with fail
   go_meet
   exact ⟨by rw [show decide (who<1)=false from decide_eq_false (by omega),show decide (4<who)=false from decide_eq_false (by omega)]; exact NO.out,B4.out⟩
  have t6:(c.op != 6)=true:=by simpa using h6
  by_cases h5:c.op=5
  ·have t5:(c.op != 5)=false:=by simp [h5]
   have O5:=Lib.hid h5
   clear h5 h6
   by_cases h1:who<1
   ·skip
    go_wp2_with fail
    go_meet
    exact ⟨HeardB.yes _ _,B4.out⟩
   by_cases h4:4<who
   ·skip
    go_wp2_with fail
    go_meet
    exact ⟨HeardB.yes _ _,B4.out⟩
   by_cases hc:who=c.who
   ·have hcb:(who == c.who)=true:=by simpa using hc
    clear hc
    go_wp2_with fail
    go_meet
    exact ⟨HeardB.yes _ _,B4.out⟩
   have hcb:(who == c.who)=false:=by simpa using hc
   have NO:=Lib.hid (HeardB.no HF.out (.inl O5.out) h1 h4 hc)
   clear hc
   go_wp2_with fail
   go_meet
   exact ⟨by rw [show decide (who<1)=false from decide_eq_false (by omega),show decide (4<who)=false from decide_eq_false (by omega)]; exact NO.out,B4.out⟩
  have t5:(c.op != 5)=true:=by simpa using h5
  clear h5 h6
  go_wp2_with fail
  go_meet
  exact ⟨HeardB.yes _ _,B4.out⟩
 case rest =>
 obtain ⟨⟨TB,rfl,htb⟩,b4⟩:=hcut
 cases TB
 case true =>
  have BZ:=Lib.hid (show RowKit.Below w.heap.size w wc from B3.out.trans (b4.mono B3.out.size))
  clear htb b4 q0 q1 q2 q3 q4 q5 q6 q7 q8 CK
  go_wp2
  go_ret
  exact ⟨rfl,BZ.out⟩
 obtain ⟨hf,hop,hwh,hwc⟩:=htb rfl
 have HF:=Lib.hid hf
 have HOP:=Lib.hid hop
 have HWH:=Lib.hid hwh
 have HWC:=Lib.hid hwc
 have H4:=Lib.hid (H3.out.over b4)
 clear b4 htb hf hop hwh hwc q0 q1 q2 q3 q4 q5 q6 q7 q8 CK R3 HK
 obtain ⟨w4,rfl⟩:∃ w4:World,w4=wc:=⟨_,rfl⟩
 have CF:=Lib.hid (rd_fault (at':=0) HWH.out (by omega))
 have L5:=Lib.hid (show (t.b.get who).length≤5 from J3.out.ti.box.len who)
 go_wp2
 go_loopw [10] (fun i wr=>∃ (k:Nat) (u:Tg) (S:Cel→Prop),(u.b.get who).length+k≤5∧i=.int .i64 k∧TgR w2 10 D T u (fun _=>False) wr∧TJ 10 S (200+2*(k:Int)) u) (fun i _=>6 - (intOf i).toNat)
 case atStart=>exact ⟨0,t,S,by have:=L5.out; omega,rfl,H4.out,by simpa using J3.out⟩
 case round =>
 obtain ⟨k,u,S,hlen,rfl,hT,hJ⟩:=hrel
 have HT:=Lib.hid hT
 have HJ:=Lib.hid hJ
 have HLEN:=Lib.hid hlen
 have hk5:(k:Int)≤5:=by omega
 clear hT hJ hlen H4 H3 J3
 have AK:=Lib.hid (task_any w2 wr 10 D T u (fun _=>False) S _ (cRd who 0) HT.out HJ.out (by omega) ⟨by show 0≤9223372036854775807; omega,by show 0≤9223372036854775807; omega⟩ (TT.out.on B2.out))
 obtain ⟨S1,-,hj1⟩:=HJ.out.ask (by omega) (cRd who 0)
 by_cases hb:u.b.get who=[]
 case neg =>
  obtain ⟨x,xl,hxl⟩:∃ x xl,u.b.get who=x :: xl:=by
   cases h:u.b.get who with
   | nil=>exact absurd h hb
   | cons x xl=>exact ⟨x,xl,rfl⟩
  obtain ⟨he,hx1,hx4⟩:=ask_told (n:=10) HJ.out.ti.box CF.out hxl
  rw [he] at AK hj1
  rw [errV_nil] at AK
  have hxn:(x == 0)=false:=by simp; omega
  have HJ':=Lib.hid (show TJ 10 S1 (200+2*((k+1:Nat):Int)) { u with b:=u.b.set who xl } from hj1.mono (by omega))
  have LEN':=Lib.hid (show (({ u with b:=u.b.set who xl }:Tg).b.get who).length+(k+1)≤5 from by
   show ((u.b.set who xl).get who).length+(k+1)≤5
   rw [Bl.get_set_self]
   have:=HLEN.out
   rw [hxl,List.length_cons] at this
   omega)
  clear hb hxl he hj1 hx1 hx4
  go_wp2_with fail
  refine AK.out.mono ?_
  rintro e w5 ⟨rfl,h5,-⟩
  have H5:=Lib.hid h5
  clear h5 AK
  go_wp2
  go_roundw
  case rel=>exact ⟨k+1,_,S1,LEN'.out,by go_num,H5.out,HJ'.out⟩
  case measure=>simp [intOf]; omega
 have hwt:(u.ask 10 (cRd who 0)).2.what=0:=ask_what CF.out hb
 have hvb:(u.ask 10 (cRd who 0)).1.b=u.b:=asked_b (asked_live HJ.out.ti CF.out (by show (7:Int)≤7; omega) hb)
 obtain ⟨ra,hra⟩:∃ r,u.ask 10 (cRd who 0)=r:=⟨_,rfl⟩
 rw [hra] at AK hj1 hwt hvb
 clear hra
 obtain ⟨v,hv⟩:∃ v,ra.1=v:=⟨_,rfl⟩
 rw [hv] at AK hj1 hvb
 rw [hwt] at AK
 have JV:=Lib.hid (show TJ 10 S1 212 v from hj1.mono (by omega))
 have VB:=Lib.hid (show v.b.get who=[] from by rw [hvb]; exact hb)
 clear hv hwt hvb hb hj1
 go_wp2_with fail
 refine AK.out.mono ?_
 rintro e w5 ⟨rfl,h5,-⟩
 have H5:=Lib.hid h5
 clear h5 AK HT
 have RL:=Lib.hid (show v.k.s.regs.length≤1000 from by have:=JV.out.ti.good.regs_len; omega)
 have STA:=Lib.hid (tstate_any w2 w5 10 D T v _ H5.out RL.out)
 go_wp2_with fail
 refine STA.out.mono ?_
 rintro e w6 ⟨a6,c6,rfl,hs6,b6,fr6⟩
 obtain ⟨w7,hw7⟩:∃ w7,w7=w6.alloc (.cells #[.int .i64 v.k.s.gen,.slice a6 v.k.s.regs.length c6,.int .i64 v.k.s.typ,.int .i64 v.k.s.holder,.bool v.k.s.stays] 35):=⟨_,rfl⟩
 have B7:=Lib.hid (show RowKit.Below w5.heap.size w5 w7 from b6.trans ((hw7▸bal w6 _:RowKit.Below w6.heap.size w6 w7).mono b6.size))
 have HS7:=Lib.hid (show StR w7 v.k.s a6 from hw7▸hs6.below (bal w6 _))
 have V7:=Lib.hid (show w7.heap[w6.heap.size]?=some (.cells #[.int .i64 v.k.s.gen,.slice a6 v.k.s.regs.length c6,.int .i64 v.k.s.typ,.int .i64 v.k.s.holder,.bool v.k.s.stays] 35 (0,0)) from hw7▸heap_alloc_new w6 _)
 have LV:=Lib.hid (show w5.heap.size≤w6.heap.size from b6.size)
 have FR6:=Lib.hid (show ∀ b o,a6=some ⟨b,o,none⟩→w5.heap.size≤b from fun b o e=>fr6 b o e)
 go_upto_region 13 with fail
 rw [← hw7]
 obtain ⟨V,hV⟩:∃ V,w6.heap.size=V:=⟨_,rfl⟩
 rw [hV] at V7 LV ⊢
 clear hw7 hV hs6 b6 fr6 STA
 obtain ⟨Z,hZ⟩:∃ Z:Nat→Prop,Z=fun c=>(fun _=>False) c∨(w5.heap.size≤c∧c<w7.heap.size):=⟨_,rfl⟩
 have H7:=Lib.hid (show TgR w2 10 D T v Z w7 from hZ▸H5.out.more B7.out)
 have ZN:=Lib.hid (show ∀ b,w5.heap.size≤b→b<w7.heap.size→Z b from fun b h1 h2=>hZ▸Or.inr ⟨h1,h2⟩)
 clear hZ
 have R7:=Lib.hid ((H7.out.below.block A LA.out).trans R2.out)
 have ASK:=Lib.hid (tpask_any w2 w7 D T v Z S1 _ c H7.out JV.out (by omega) HS.out (TT.out.on B2.out))
 obtain ⟨r,hr⟩:∃ r,v.askN 10 c 6=r:=⟨_,rfl⟩
 have LAW:=Lib.hid (fun he hk hg=>heard_law JV.out.ti (by omega) HF.out HOP.out HWH.out HWC.out VB.out hr he hk hg)
 obtain ⟨S2,jr⟩:=JV.out.six (by omega) HF.out hr
 have JR:=Lib.hid jr
 rw [hr] at ASK
 clear hr jr
 obtain ⟨q0,q1,q2,q3,q4,q5,q6,q7,q8⟩:=cells9 R7.out
 go_wp2_with fail
 refine ASK.out.mono ?_
 rintro e w8 ⟨rfl,h8,s8⟩
 dsimp only
 have H8:=Lib.hid h8
 have V8:=Lib.hid ((s8 V (ZN.out V LV.out (Array.getElem?_eq_some_iff.1 V7.out).1)).trans V7.out)
 have HS8:=Lib.hid (show StR w8 v.k.s a6 from HS7.out.same s8 (fun b hb=>h8.lt_y b hb) (fun b o e hne=>ZN.out b (FR6.out b o e) (by
  have hs:=HS7.out
  rw [e] at hs
  exact StR.blt hs hne)))
 clear h8 s8 ASK q0 q1 q2 q3 q4 q5 q6 q7 q8 V7 HS7 R7
 obtain ⟨z,hz⟩:∃ u,r.1=u:=⟨_,rfl⟩
 obtain ⟨f,hff⟩:∃ f,r.2.2.2=f:=⟨_,rfl⟩
 rw [hz] at H8 LAW JR
 rw [hff] at LAW ⊢
 clear hz hff H7
 have RU:=Lib.hid (show z.k.s.regs.length≤1000 from by have:=JR.out.ti.good.regs_len; omega)
 have STA:=Lib.hid (tstate_any w2 w8 10 D T z Z H8.out RU.out)
 go_wp2_with fail
 refine STA.out.mono ?_
 rintro e w9 ⟨a9,c9,rfl,hs9,b9,fr9⟩
 obtain ⟨wA,hwA⟩:∃ w9',w9'=w9.alloc (.cells #[.int .i64 z.k.s.gen,.slice a9 z.k.s.regs.length c9,.int .i64 z.k.s.typ,.int .i64 z.k.s.holder,.bool z.k.s.stays] 35):=⟨_,rfl⟩
 have BA:=Lib.hid (show RowKit.Below w8.heap.size w8 wA from b9.trans ((hwA▸bal w9 _:RowKit.Below w9.heap.size w9 wA).mono b9.size))
 have HUA:=Lib.hid (show StR wA z.k.s a9 from hwA▸hs9.below (bal w9 _))
 have UA:=Lib.hid (show wA.heap[w9.heap.size]?=some (.cells #[.int .i64 z.k.s.gen,.slice a9 z.k.s.regs.length c9,.int .i64 z.k.s.typ,.int .i64 z.k.s.holder,.bool z.k.s.stays] 35 (0,0)) from hwA▸heap_alloc_new w9 _)
 have VA:=Lib.hid ((BA.out.block V (Array.getElem?_eq_some_iff.1 V8.out).1).trans V8.out)
 have HSA:=Lib.hid (show StR wA v.k.s a6 from HS8.out.below BA.out)
 have HA:=Lib.hid (show TgR w2 10 D T z Z wA from H8.out.over BA.out)
 go_upto_region 15 with fail
 rw [← hwA]
 obtain ⟨VU,hVU⟩:∃ V,w9.heap.size=V:=⟨_,rfl⟩
 rw [hVU] at UA ⊢
 clear hwA hVU hs9 b9 fr9 STA V8 HS8 H8 BA
 have BW:=Lib.hid (show RowKit.Below w.heap.size w wA from B2.out.trans (HA.out.below.mono B2.out.size))
 by_cases hf0:f=0
 case neg =>
  rw [errV_some hf0]
  clear hf0
  go_wp2
  go_ret
  exact ⟨rfl,BW.out⟩
 have LW:=Lib.hid (LAW.out hf0)
 rw [hf0,errV_nil]
 clear hf0 LAW
 have KY1:=Lib.hid (key_any v.k.s a6 c6 who wA HSA.out)
 obtain ⟨K1,hK1⟩:∃ K,keyOf v.k.s.regs who=K:=⟨_,rfl⟩
 obtain ⟨K2,hK2⟩:∃ K,keyOf z.k.s.regs who=K:=⟨_,rfl⟩
 rw [hK1] at KY1 LW
 rw [hK2] at LW
 obtain ⟨⟨v0,v1,v2,v3,v4⟩,-⟩:=cells5 VA.out
 clear hK1
 go_wp2_with fail
 refine KY1.out.mono ?_
 rintro e wB ⟨rfl,bB⟩
 have BB:=Lib.hid bB
 have UB:=Lib.hid ((bB.block VU (Array.getElem?_eq_some_iff.1 UA.out).1).trans UA.out)
 have KY2:=Lib.hid (key_any z.k.s a9 c9 who wB (HUA.out.below bB))
 rw [hK2] at KY2
 clear bB KY1 hK2 v0 v1 v2 v3 v4
 by_cases hk0:K1=0
 ·have BZ:=Lib.hid (show RowKit.Below w.heap.size w wB from BW.out.trans (BB.out.mono BW.out.size))
  have hk0b:(K1 == 0)=true:=by simpa using hk0
  clear hk0
  go_wp2
  go_ret
  exact ⟨rfl,BZ.out⟩
 have LW2:=Lib.hid (LW.out hk0)
 have hk0b:(K1 == 0)=false:=by simpa using hk0
 clear hk0 LW
 obtain ⟨⟨v0,v1,v2,v3,v4⟩,-⟩:=cells5 UB.out
 go_wp2_with fail
 refine KY2.out.mono ?_
 rintro e wC ⟨rfl,bC⟩
 have BC:=Lib.hid (show RowKit.Below wA.heap.size wA wC from BB.out.trans (bC.mono BB.out.size))
 have HC:=Lib.hid (HA.out.over BC.out)
 have BZ:=Lib.hid (show RowKit.Below w.heap.size w wC from BW.out.trans (BC.out.mono BW.out.size))
 clear bC KY2 v0 v1 v2 v3 v4 hk0b
 by_cases hk2:0<K2
 ·go_wp2
  go_ret
  exact ⟨rfl,BZ.out⟩
 obtain ⟨x,hbx,hx⟩:=LW2.out (by omega)
 have AK:=Lib.hid (task_any w2 wC 10 D T z Z S2 _ (cRd who 0) HC.out JR.out (by omega) ⟨by show 0≤9223372036854775807; omega,by show 0≤9223372036854775807; omega⟩ (TT.out.on B2.out))
 rw [(ask_told (n:=10) JR.out.ti.box CF.out hbx).1,errV_nil] at AK
 have HX:=Lib.hid hx
 clear hbx hx LW2
 go_wp2_with fail
 refine AK.out.mono ?_
 rintro e wD ⟨rfl,hD,-⟩
 have BE:=Lib.hid (show RowKit.Below w.heap.size w wD from B2.out.trans (hD.below.mono B2.out.size))
 clear hD AK
 rcases HX.out with rfl | rfl
 ·go_wp2
  go_ret
  exact ⟨rfl,BE.out⟩
 ·go_wp2
  go_ret
  exact ⟨rfl,BE.out⟩
end Go.Proofs.YtajegiifabfcjaaGreatDoor
