/-
  DiskN, KpSize, App, SameErr, IMap
-/
import Derived.Laws.AppendOwn
import Derived.LaidEql
import Derived.Test.YtajegiifabfcjaaGreatDoorQ12
namespace Go.Proofs.YtajegiifabfcjaaGreatDoor
open List (getElem_toArray getElem_cons_zero getElem_cons_succ setIfInBounds_toArray set_cons_zero set_cons_succ)
open Go.RowKit
theorem and_small:∀ n:Fin 41,bits BinOp.and IntKind.u64 (n.val:Int) 4294967295=(n.val:Int):=by decide +kernel
theorem wrap_small:∀ n:Fin 41,IntKind.u64.wrap (n.val:Int)=(n.val:Int):=by decide +kernel
set_option maxRecDepth 100000 in
theorem mul64_one (n:Nat) (w:World) (hn:n≤40) :
  Calls Tryz.prog 144 #[.int .u64 1,.int .u64 n] w fun e w'=>e=.returned (.tuple #[.int .u64 0,.int .u64 n])∧w'=w:=by
 have q1:bits BinOp.and IntKind.u64 1 4294967295=1:=and_small 1
 have q2:bits BinOp.and IntKind.u64 (n:Int) 4294967295=(n:Int):=and_small ⟨n,by omega⟩
 have q3:(n:Int) / 4294967296=0:=by omega
 have q4:IntKind.u64.wrap (n:Int)=(n:Int):=wrap_small ⟨n,by omega⟩
 have q5:IntKind.u64.wrap 0=0:=wrap_small 0
 have q6:bits BinOp.and IntKind.u64 0 4294967295=0:=and_small 0
 go_enter Tryz.func144,Tryz.ntmps144
 go_wp2
 exact bodyPost_ret (v:=.tuple #[.int .u64 0,.int .u64 n]) (by simp [results,Tryz.results144,go_sem, *]) rfl ⟨rfl,rfl⟩
set_option maxRecDepth 100000 in
theorem mul_one (n:Nat) (w:World) (hn:n≤40) :
  Calls Tryz.prog 109 #[.int .u64 1,.int .u64 n] w fun e w'=>e=.returned (.tuple #[.int .u64 0,.int .u64 n])∧w'=w:=by
 have M:=Lib.hid (fun w=>mul64_one n w hn)
 clear hn
 go_enter Tryz.func109,Tryz.ntmps109
 go_wp2_with fail
 refine (M.out _).mono ?_
 rintro e w1 ⟨rfl,rfl⟩
 go_wp2
 exact bodyPost_ret (v:=.tuple #[.int .u64 0,.int .u64 n]) (by simp [results,Tryz.results109,go_sem, *]) rfl ⟨rfl,rfl⟩
theorem infoStr:(Tryz.prog.info? 9).map (fun i=>(i.zero,i.size,i.bytes))=some (some (.string ⟨#[]⟩),1,16):=by kernel_rfl
theorem made_row {w:World} {B b n:Nat} {l:List Value} (h:w.ownsRow B 9 1 (.slice (some ⟨b,0,none⟩) n n) n l):∃ cur,w.heap[b]?=some (.cells cur 9 (0,0))∧cur.size=n:=by
 rcases h.2 with ⟨e,-⟩ | ⟨g,cap,cur,e,-,hg,-,-,hs,-⟩
 ·cases e
 ·obtain ⟨rfl,rfl⟩:b=g∧n=cap:=by simpa using e
  exact ⟨cur,hg,by rw [hs]; omega⟩
theorem step_copy_run2 {P:Program} {ops:Array Oper} {o:Oper} {a:Act} {w:World} {K:Act→World→Prop} {Q:Exit→Act→World→Prop} {E:Prop} (hgd:o.guard=none) (d s:Operand) (t t':TypeId)
  (ho:o.op=.call { callee:=.builtin .copy,args:=#[d,s],argTypes:=#[t,t'] }) (v u:Value) (hd:a.eval d=v) (hs:a.eval s=u) {v':Value} {w':World}
  (hr:(Builtin.copy_ #[t,t'] o.type #[v,u]).run P w=.ok v' w') (h:K (a.put o.dst v') w'):if Region.wanted o (yielded ops a.tmps)=true then Oper.wp P o a w K Q else E:=by
 have hw:Region.wanted o (yielded ops a.tmps)=true:=by simp [Region.wanted,hgd]
 rw [if_pos hw]
 exact Lib.wp_copy_run w d s t t' ho v u hd hs hr h
def RepS (w:World) (g n k:Nat) (s:ByteArray):Prop :=
 ∃ cur:Array Value,w.heap[g]?=some (.cells cur 9 (0,0))∧cur.size=n∧cur.toList.take k=List.replicate k (.string s)
theorem RepS.row {w:World} {g n:Nat} {s:ByteArray} (h:RepS w g n n s):RowS w g (List.replicate n s):=by
 obtain ⟨cur,h1,h2,h3⟩:=h
 exact ⟨cur,h1,by simp [h2],by rw [List.length_replicate,h3]; simp [strs]⟩
set_option maxRecDepth 100000 in
set_option maxHeartbeats 1000000 in
theorem repeat_any (n:Nat) (s:ByteArray) (b:Nat) (w:World) (hn:1≤n∧n≤40) (hb:w.heap[b]?=some (.cells #[.string s] 9 (0,0))) :
  Calls Tryz.prog 81 #[.slice (some ⟨b,0,none⟩) 1 1,.int .i64 n] w fun e w'=>∃ g,e=.returned (.slice (some ⟨g,0,none⟩) n n)∧RowS w' g (List.replicate n s)∧w.heap.size≤g∧Below w.heap.size w w':=by
 have M:=Lib.hid (fun w=>mul_one n w hn.2)
 have q4:IntKind.u64.wrap (n:Int)=(n:Int):=wrap_small ⟨n,by omega⟩
 go_enter Tryz.func81,Tryz.ntmps81
 go_wp2_with fail
 refine (M.out _).mono ?_
 rintro e w1 ⟨rfl,rfl⟩
 obtain ⟨i0,hi,hz0,hz1,hz2⟩:=info_parts infoStr
 have HB:=Lib.hid hb
 have HN:=Lib.hid hn
 clear M
 go_wp2_with (refine wpList_make_full _ rfl _ _ 99 rfl w1.heap.size 9 i0 (.string ⟨#[]⟩) 1 Tryz.underlying99 hi hz0 hz1 .i64 .i64 n n n rfl rfl rfl rfl ?b2 ?b3 (Nat.le_refl _) ?_)
 case b2=>have:=HN.out; rw [hz2]; omega
 case b3=>have:=HN.out; unfold maxLen; omega
 intro w2 hown hg
 obtain ⟨G,hG⟩:∃ G,w1.heap.size=G:=⟨_,rfl⟩
 have B2:=Lib.hid (show Below w1.heap.size w1 w2 from (Below.refl _ _).grown hg (by simp) (fun k hk=>by simp at hk))
 obtain ⟨cur,hc,hcs⟩:=made_row hown
 have hlt:b<w1.heap.size:=(Array.getElem?_eq_some_iff.1 HB.out).1
 have hb2:=(B2.out.block b hlt).trans HB.out
 obtain ⟨C0,hC0⟩:∃ C0:Array Value,C0=(cur.toList.take 0 ++ [Value.string s] ++ cur.toList.drop (0+1)).toArray:=⟨_,rfl⟩
 have hr:(Builtin.copy_ #[99,99] 3 #[.slice (some ⟨w1.heap.size,0,none⟩) n n,.slice (some ⟨b,0,none⟩) 1 1]).run Tryz.prog w2=.ok (goInt 1) (w2.setRow w1.heap.size C0):=by
  rw [hC0]
  have hn1:=HN.out.1
  exact run_copy_row (P:=Tryz.prog) w2 99 99 3 9 w1.heap.size 0 n n ⟨b,0,none⟩ 1 1 cur 9 [.string s] Tryz.underlying99 (by kernel_rfl) hc (by show 1=Nat.min 1 n; exact (Nat.min_eq_left hn1).symm) (World.news_of_block hb2) (by rw [hcs]; simp; omega) (strs_one [s])
 have RP:=Lib.hid (show RepS (w2.setRow w1.heap.size C0) w1.heap.size n 1 s from ⟨C0,setRow_heap _ _ _ _ _ _ hc,by rw [hC0]; have:=HN.out.1; simp; omega,by rw [hC0]; simp⟩)
 have KK:=Lib.hid (show Below w1.heap.size w1 (w2.setRow w1.heap.size C0) from B2.out.trans ((keeps_row (Keeps.refl (·=w1.heap.size) w2) rfl C0).below B2.out.size (fun m hm=>by omega)))
 clear hown hg hc hcs hC0 hb2 hlt B2 hG
 go_wp2_with (at_builtin; refine Lib.wpList_copy_run _ rfl _ _ 99 99 rfl _ _ rfl rfl hr ?_)
 clear hr
 obtain ⟨w3,hw3⟩:∃ w3,w3=w2.setRow w1.heap.size C0:=⟨_,rfl⟩
 rw [← hw3] at RP KK ⊢
 clear hw3
 go_loopw [8,37] (fun m _ wr=>∃ k:Nat,1≤k∧k≤n∧m=.int .i64 k∧RepS wr w1.heap.size n k s∧Below w1.heap.size w1 wr) (fun m _ _=>n - (intOf m).toNat)
 case atStart=>exact ⟨1,by omega,HN.out.1,rfl,RP.out,KK.out⟩
 case round =>
  obtain ⟨k,hk1,hk,rfl,rp,kb⟩:=hrel
  have RR:=Lib.hid rp
  have KB:=Lib.hid kb
  clear rp kb RP KK
  by_cases hlt:k<n
  ·go_upto_region 9 with fail
   have hki:(k:Int)≤(n:Int):=by omega
   have hk0:(0:Int)≤(k:Int):=by omega
   obtain ⟨m,hm,hmk⟩:∃ m,m=Nat.min k (n - k)∧m≤k∧m≤n - k∧1≤m:=⟨_,rfl,Nat.min_le_left _ _,Nat.min_le_right _ _,Nat.le_min.2 ⟨hk1,by omega⟩⟩
   obtain ⟨cur,hc,hcs,ht⟩:=RR.out
   obtain ⟨C1,hC1⟩:∃ C1:Array Value,C1=(cur.toList.take k ++ List.replicate m (Value.string s) ++ cur.toList.drop (k+m)).toArray:=⟨_,rfl⟩
   have hsrc:∀ j v,(List.replicate m (Value.string s))[j]?=some v→wr.drew.cell? ((⟨w1.heap.size,0,none⟩:Addr).add j)=some v:=by
    intro j v hj
    rw [add_zero_at]
    have hjm:j<m:=by
     have:=(List.getElem?_eq_some_iff.1 hj).1
     simpa using this
    have h2:(cur.toList.take k)[j]?=(List.replicate k (Value.string s))[j]?:=by rw [ht]
    rw [List.getElem?_take_of_lt (by omega)] at h2
    show wr.cell? _=_
    simp only [World.cell?,hc]
    rw [show (List.replicate k (Value.string s))[j]?=some (Value.string s) from by rw [List.getElem?_replicate,if_pos (by omega)]] at h2
    rw [show (List.replicate m (Value.string s))[j]?=some (Value.string s) from by simp [hjm]] at hj
    rw [← hj]
    simpa using h2
   have hr:=run_copy_row (P:=Tryz.prog) wr.drew 99 99 3 9 w1.heap.size k (n - k) (n - k) ⟨w1.heap.size,0,none⟩ k n cur 9 (List.replicate m (.string s)) Tryz.underlying99 (by kernel_rfl) hc (by rw [List.length_replicate]; exact hm) hsrc (by rw [List.length_replicate,hcs]; omega) (fun u hu=>by rw [List.eq_of_mem_replicate hu]; rfl)
   rw [List.length_replicate,← hC1] at hr
   have R2:=Lib.hid (show RepS (wr.drew.setRow w1.heap.size C1) w1.heap.size n (k+m) s from ⟨C1,setRow_heap _ _ _ _ _ _ hc,by rw [hC1]; simp [hcs]; omega,by
    rw [hC1,ht]
    rw [List.take_append_of_le_length (by simp),List.take_of_length_le (by simp),List.replicate_append_replicate]⟩)
   have K2:=Lib.hid (show Below w1.heap.size w1 (wr.drew.setRow w1.heap.size C1) from KB.out.trans ((keeps_row ((Keeps.refl (·=w1.heap.size) wr).drew) rfl C1).below KB.out.size (fun m hm=>by omega)))
   have q7:IntKind.i64.wrap ((k:Int)+(m:Int))=(k:Int)+(m:Int):=IntWalk.i64_in _ (by have:=HN.out; omega)
   clear hC1 hsrc hc hcs ht RR KB hm
   have hnk:¬ n=k:=by omega
   go_region_law (first | (refine step_copy_run2 (by rfl) _ _ 99 99 (by rfl) (.slice (some ⟨w1.heap.size,k,none⟩) (n - k) (n - k)) (.slice (some ⟨w1.heap.size,0,none⟩) k n) (by simp [Act.eval,Act.put]) (by simp [Act.eval,Act.put]) hr ?_; simp only [Act.put,getElem_toArray,getElem_cons_zero,getElem_cons_succ,setIfInBounds_toArray,set_cons_zero,set_cons_succ]))
   all_goals
    go_simp
    go_wp2
    go_roundw
    case rel=>exact ⟨k+m,by omega,by omega,by go_num,R2.out,K2.out⟩
    case measure=>simp [intOf]; omega
  ·obtain rfl:k=n:=by omega
   go_wp2
   go_ret
   exact ⟨_,rfl,RR.out.row,Nat.le_refl _,KB.out⟩
theorem own_rowS {w:World} {B n:Nat} {v:Value} {l:List ByteArray} (h:w.ownsRow B 9 1 v n (strs l)) (hn:1≤n) :
  ∃ g c,v=.slice (some ⟨g,0,none⟩) n c∧B≤g∧n≤c∧RowS w g l:=by
 have hl:l.length=n:=by have:=h.1; rw [strs_len] at this; omega
 rcases h.2 with ⟨-,h0⟩ | ⟨g,cap,cur,rfl,hB,hg,hc,-,hs,ht⟩
 ·omega
 ·refine ⟨g,cap,rfl,hB,hc,cur,hg,by omega,?_⟩
  rw [hl,← ht]; simp
theorem clone_str (l:List ByteArray) (n g cap:Nat) (w:World) (hl:l.length=n) (hn:1≤n∧n≤40) (hr:RowS w g l) :
  Calls Tryz.prog 83 #[.slice (some ⟨g,0,none⟩) n cap] w fun e w'=>∃ g' c',e=.returned (.slice (some ⟨g',0,none⟩) n c')∧RowS w' g' l∧n≤c'∧w.heap.size≤g'∧Below w.heap.size w w':=by
 have hq:=fun w=>Lib.run_eql_slice_nil (P:=Tryz.prog) w 99 9 (some ⟨g,0,none⟩) n cap 0 0 Tryz.underlying99
 obtain ⟨i0,hi,hz0,hz1,hz2⟩:=info_parts infoStr
 have hnews:∀ j u,(strs l)[j]?=some u→(w.alloc (.cells #[] 9)).cell? ((⟨g,0,none⟩:Addr).add j)=some u:=(hr.move ((bal w _).block g hr.lt)).src
 have hown:(w.alloc (.cells #[] 9)).ownsRow w.heap.size 9 1 (.slice (some ⟨w.heap.size,0,none⟩) 0 0) 0 [] :=
  ⟨rfl,.inr ⟨w.heap.size,0,#[],rfl,Nat.le_refl _,heap_alloc_new _ _,Nat.le_refl _,by simp [maxLen],rfl,rfl⟩⟩
 have HL:=Lib.hid hl
 have HN:=Lib.hid hn
 clear hl hn hr
 go_enter Tryz.func83,Tryz.ntmps83
 go_wp2_with (at_builtin; refine wpList_append_own _ rfl _ _ 99 rfl w.heap.size 9 i0 (.string ⟨#[]⟩) 1 16 Tryz.underlying99 hi hz0 hz1 hz2 rfl (by decide) _ _ _ rfl hown ⟨g,0,none⟩ n cap (strs l) rfl (by rw [strs_len,HL.out]; omega) hnews (strs_one l) ?c3 ?c4 ?c5 ?_)
 case c3=>have:=HN.out; unfold maxLen; omega
 case c4=>have:=HN.out; omega
 case c5=>simp
 intro v' w1 hown1 hg1 _
 obtain ⟨g',c',rfl,hB,hc,hr⟩:=own_rowS hown1 HN.out.1
 have B1:=Lib.hid (show Below w.heap.size w w1 from (bal w _).grown hg1 (by simp) (fun k hk=>by simp [Value.ownBlock] at hk; omega))
 have HB:=Lib.hid hB
 have HC:=Lib.hid hc
 have HR:=Lib.hid hr
 clear hown1 hg1 hB hc hr hnews hown
 go_wp2
 go_ret
 exact ⟨g',c',rfl,HR.out,HC.out,HB.out,B1.out⟩
def Dk.new (n:Nat):Dk:=⟨List.replicate n (fullB ⟨#[]⟩),List.replicate n (fullB ⟨#[]⟩),[],-1,false⟩
theorem Dk.new_ok {n:Nat} (h:n≤40):(Dk.new n).ok n:=⟨h,by simp [Dk.new],by simp [Dk.new],(fun _ hr=>by cases hr),(show (-1:Int)≤-1 by omega),(show (-1:Int)≤9223372036854775807 by omega)⟩
def made (w w':World):Nat→Prop:=fun k=>w.heap.size≤k∧k<w'.heap.size
set_option maxRecDepth 100000 in
set_option maxHeartbeats 1000000 in
theorem dnew_any (n:Nat) (w:World) (hn:1≤n∧n≤40) :
  Calls Tryz.prog 46 #[.int .i64 n] w fun e w'=>∃ D,e=.returned (.tuple #[.pointer (some ⟨D,0,none⟩),.nilIface])∧DkAt (made w w') w' 132 134 D n (Dk.new n)∧Below w.heap.size w w':=by
 have FULL:=Lib.hid (fun w=>full_any ⟨#[]⟩ w (by decide))
 have HN:=Lib.hid hn
 have q1:decide ((n:Int)<1)=false:=by rw [decide_eq_false_iff_not]; omega
 have q2:decide ((40:Int)<(n:Int))=false:=by rw [decide_eq_false_iff_not]; omega
 clear hn
 go_enter Tryz.func46,Tryz.ntmps46
 go_wp2_with fail
 refine (FULL.out _).mono ?_
 rintro e w1 ⟨rfl,b1⟩
 obtain ⟨F,hF⟩:∃ F,fullB ⟨#[]⟩=F:=⟨_,rfl⟩
 rw [hF]
 have HF:=Lib.hid hF
 have B1:=Lib.hid b1
 clear b1 hF FULL
 go_wp2_with fail
 have b2:=bal w1 (.cells #[.string F] 9)
 refine (repeat_any n F w1.heap.size _ HN.out (heap_alloc_new w1 _)).mono ?_
 rintro e w3 ⟨K,rfl,hr,hK,b3⟩
 have B3:=Lib.hid ((B1.out.trans (b2.mono B1.out.size)).trans (b3.mono (Nat.le_trans B1.out.size b2.size)))
 have HK:=Lib.hid (show w.heap.size≤K from Nat.le_trans (Nat.le_trans B1.out.size b2.size) hK)
 have HR:=Lib.hid hr
 clear b2 b3 B1 hr hK
 go_wp2_with fail
 refine (clone_str (List.replicate n F) n K n _ (by simp) HN.out HR.out).mono ?_
 rintro e w4 ⟨N,cn,rfl,hrn,hcn,hN,b4⟩
 have B4:=Lib.hid (B3.out.trans (b4.mono B3.out.size))
 have HR4:=Lib.hid (HR.out.move (b4.block K HR.out.lt))
 have HKN:=Lib.hid (show K≠N from by have:=HR.out.lt; omega)
 have HN4:=Lib.hid (show w.heap.size≤N from Nat.le_trans B3.out.size hN)
 have HRN:=Lib.hid hrn
 have HCN:=Lib.hid hcn
 clear hrn hcn hN b4 B3 HR
 have FIN:=Lib.hid (show DkAt (made w (w4.alloc (.cells #[.slice (some ⟨K,0,none⟩) n n,.slice (some ⟨N,0,none⟩) n cn,.slice none 0 0,.int .i64 (-1),.bool false] 132))) (w4.alloc (.cells #[.slice (some ⟨K,0,none⟩) n n,.slice (some ⟨N,0,none⟩) n cn,.slice none 0 0,.int .i64 (-1),.bool false] 132)) 132 134 w4.heap.size n (Dk.new n) from by
  have hkl:=HR4.out.lt
  have hnl:=HRN.out.lt
  have h0:=B4.out.size
  have b5:=bal w4 (.cells #[.slice (some ⟨K,0,none⟩) n n,.slice (some ⟨N,0,none⟩) n cn,.slice none 0 0,.int .i64 (-1),.bool false] 132)
  refine ⟨K,N,n,cn,.slice none 0 0,⟨heap_alloc_new _ _,?_,?_,World.ownsRow_nil _ _ _ _,by omega,by omega,HKN.out,(fun e=>by cases e),(fun e=>by cases e),(fun e=>by cases e),Nat.le_refl _,HCN.out⟩,⟨h0,by simp⟩,⟨HK.out,by simp; omega⟩,⟨HN4.out,by simp; omega⟩,(fun b hb=>by cases hb)⟩
  ·unfold Dk.new; rw [HF.out]; exact HR4.out.move (b5.block K hkl)
  ·unfold Dk.new; rw [HF.out]; exact HRN.out.move (b5.block N hnl))
 have B5:=Lib.hid (B4.out.trans ((bal w4 (.cells #[.slice (some ⟨K,0,none⟩) n n,.slice (some ⟨N,0,none⟩) n cn,.slice none 0 0,.int .i64 (-1),.bool false] 132)).mono B4.out.size))
 go_wp2
 exact bodyPost_ret (v:=.tuple #[.pointer (some ⟨w4.heap.size,0,none⟩),.nilIface]) (by simp [results,Tryz.results46,go_sem]) rfl ⟨_,rfl,FIN.out,B5.out⟩
end Go.Proofs.YtajegiifabfcjaaGreatDoor
namespace Go.Proofs.YtajegiifabfcjaaGreatDoor
open Go.RowKit
structure Sz (d:Dk):Prop where
 kept:∀ x∈d.kept,x.size=64
 now:∀ x∈d.now,x.size=64
 wait:∀ r∈d.wait,r.2.size=64
theorem fullB_size {s:ByteArray} (h:s.size≤64):(fullB s).size=64:=by
 unfold fullB
 rw [ByteArray.size_append,zerosB_size]
 omega
theorem mem_set {l:List ByteArray} {i:Nat} {y:ByteArray} (h:∀ x∈l,x.size=64) (hy:y.size=64):∀ x∈l.set i y,x.size=64:=by
 intro x hx
 rcases List.mem_or_eq_of_mem_set hx with h' | rfl
 ·exact h x h'
 ·exact hy
theorem Sz.step {d:Dk} (h:Sz d):Sz d.step:=by
 have e:=Dk.step_lists d
 exact ⟨by rw [e.1]; exact h.kept,by rw [e.2.1]; exact h.now,by rw [e.2.2]; exact h.wait⟩
theorem Sz.write {n:Nat} {d:Dk} (h:Sz d) (p:Int) (s:ByteArray):Sz (d.write n p s):=by
 unfold Dk.write
 split
 ·exact h
 ·rename_i hp
  have hs:=fullB_size (s:=s) (by omega)
  split
  ·have e:=Dk.step_lists d
   refine ⟨by show ∀ x∈d.step.kept,_; rw [e.1]; exact h.kept,mem_set h.now hs,fun r hr=>?_⟩
   rcases List.mem_append.1 hr with hr | hr
   ·exact h.wait r hr
   ·obtain rfl:=List.mem_singleton.1 hr
    exact hs
  ·exact h.step
theorem Sz.flush {d:Dk} (h:Sz d):Sz d.flush:=by
 unfold Dk.flush
 split
 ·exact ⟨h.now,by show ∀ x∈d.step.now,_; rw [(Dk.step_lists d).2.1]; exact h.now,fun r hr=>by cases hr⟩
 ·exact h.step
theorem Sz.rest {d:Dk} (h:Sz d) (keep:Int):∀ k,k≤d.wait.length→∀ x∈d.restTo keep k,x.size=64
 | 0,_=>h.kept
 | k+1,hk=>by
  have ih:=Sz.rest h keep k (by omega)
  unfold Dk.restTo
  split
  ·refine mem_set ih ?_
   rw [List.getD_eq_getElem?_getD,List.getElem?_eq_getElem (by omega),Option.getD_some]
   exact h.wait _ (List.getElem_mem _)
  ·exact ih
theorem Sz.restart {d:Dk} (h:Sz d) (keep:Int):Sz (d.restart keep) :=
 ⟨h.rest keep _ (Nat.le_refl _),h.rest keep _ (Nat.le_refl _),fun r hr=>by cases hr⟩
theorem Sz.new (n:Nat):Sz (Dk.new n):=by
 have hf:∀ x∈List.replicate n (fullB ⟨#[]⟩),x.size=64:=fun x hx=>by
  rw [List.eq_of_mem_replicate hx]; exact fullB_size (by decide)
 exact ⟨hf,hf,fun r hr=>by cases hr⟩
theorem Sz.lay {n a:Nat} {d:Dk} {A B:ByteArray} (h:Sz d):Sz (layD n d a A B).1:=by
 unfold layD
 dsimp only
 split
 ·exact h.write _ _
 ·split
  ·exact (h.write _ _).flush
  ·split
   ·exact ((h.write _ _).flush).write _ _
   ·split
    ·exact (((h.write _ _).flush).write _ _).flush
    ·split
     ·exact ((((h.write _ _).flush).write _ _).flush).write _ _
     ·split
      ·exact (((((h.write _ _).flush).write _ _).flush).write _ _).flush
      ·exact (((((h.write _ _).flush).write _ _).flush).write _ _).flush
theorem Sz.sector {n:Nat} {d:Dk} (h:Sz d) (ok:d.ok n) {p:Nat} (hp:p<n):(d.now.getD p ⟨#[]⟩).size=64:=by
 rw [List.getD_eq_getElem?_getD,List.getElem?_eq_getElem (by rw [ok.nl]; exact hp),Option.getD_some]
 exact h.now _ (List.getElem_mem _)
theorem append_empty (a:Option Addr) (cap:Nat) (ty:TypeId) (w:World) :
  (Builtin.append_ #[33,33] ty #[.slice none 0 0,.slice a 0 cap]).run Tryz.prog w=.ok (.slice none 0 0) w:=by
 obtain ⟨i0,hi,hz0,hz1,hz2⟩:=info_parts Tryz.infoReg
 simp [Builtin.append_,run_underlying Tryz.underlying33,sizeOf,typeInfo,hi,Builtin.lenOf]
 cases a <;> simp [Builtin.firstCells,Result.andThen,loadCells,loadCellsFrom]
theorem append_pairs (l:List (Int × Int)) (a:Option Addr) (cap:Nat) (ty:TypeId) (w:World) (hl:l.length≤1000) (hr:Pairs w.heap.size w a l) :
  ∃ v w',(Builtin.append_ #[33,33] ty #[.slice none 0 0,.slice a l.length cap]).run Tryz.prog w=.ok v w'∧OwnP w.heap.size w' v l∧Below w.heap.size w w':=by
 by_cases h0:l=[]
 ·subst h0
  exact ⟨_,_,append_empty a cap ty w,⟨rfl,.inl ⟨rfl,rfl⟩⟩,Below.refl _ _⟩
 ·obtain ⟨b,o,rfl,hb,-⟩:=hr 0 (List.length_pos_iff.2 h0)
  obtain ⟨i0,hi,hz0,hz1,hz2⟩:=info_parts Tryz.infoReg
  obtain ⟨v',w',hrun,r1,r2,_⟩:=run_append_own (P:=Tryz.prog) w w.heap.size 33 ty 118 i0 _ 2 16 Tryz.underlying33 hi hz0 hz1 hz2 rfl (by omega) (.slice none 0 0) 0 [] (World.ownsRow_nil w _ _ _) ⟨b,o,none⟩ l.length cap (pcells l) (pcells_length l) (pairs_cells hr) (pcells_one l) (by unfold maxLen; omega) (by omega) (Nat.le_refl _)
  refine ⟨v',w',hrun,?_,(Below.refl _ _).grown r2 (Nat.le_refl _) (fun q hq=>by cases hq)⟩
  simpa [OwnP] using r1
theorem assert_errno (w:World) (v:Value):(Instr.typeAssert (.iface 95 v) 41 95 true).run Tryz.prog w=.ok (.tuple #[v,.bool true]) w:=by kernel_rfl
def IMap (w:World) (b:Nat) (l:List (Int × Value)):Prop :=
 ∃ es cl,w.heap[b]?=some (.map es cl)∧es.toList.map (fun e=>(e.key,e.val))=l.map fun p=>(Value.int .i64 p.1,p.2)
theorem IMap.lt {w:World} {b:Nat} {l:List (Int × Value)} (h:IMap w b l):b<w.heap.size:=by
 obtain ⟨_,_,h,_⟩:=h
 exact (Array.getElem?_eq_some_iff.1 h).1
theorem IMap.move {w w':World} {b:Nat} {l:List (Int × Value)} (h:IMap w b l) (e:w'.heap[b]?=w.heap[b]?):IMap w' b l:=by
 obtain ⟨es,cl,h,he⟩:=h
 exact ⟨es,cl,e.trans h,he⟩
theorem IMap.new (w:World):IMap (w.alloc (.map #[] 0)) w.heap.size []:=⟨#[],0,heap_alloc_new w _,rfl⟩
def findI (k:Int):List (Int × Value)→Nat→Option (Nat × Value)
 | [],_=>none
 | p :: l,i=>if p.1=k then some (i,p.2) else findI k l (i+1)
def putI (l:List (Int × Value)) (k:Int) (v:Value):List (Int × Value):=match findI k l 0 with | some r=>l.set r.1 (k,v) | none=>l ++ [(k,v)]
def delI (l:List (Int × Value)) (k:Int):List (Int × Value):=match findI k l 0 with | some r=>l.eraseIdx r.1 | none=>l
theorem findI_spec (k:Int):∀ (l:List (Int × Value)) (i:Nat) (r:Nat × Value),findI k l i=some r→∃ j,r.1=i+j∧l[j]?=some (k,r.2)
 | [],_,_,h=>by cases h
 | p :: l,i,r,h=>by
  unfold findI at h
  by_cases hk:p.1=k
  ·rw [if_pos hk] at h
   cases h
   exact ⟨0,rfl,by rw [← hk]; rfl⟩
  ·rw [if_neg hk] at h
   obtain ⟨j,h1,h2⟩:=findI_spec k l (i+1) r h
   exact ⟨j+1,by omega,by simpa using h2⟩
theorem findNow_int (k:Int):∀ (es:List MapEntry) (l:List (Int × Value)) (i:Nat),es.map (fun e=>(e.key,e.val))=l.map (fun p=>(Value.int .i64 p.1,p.2))→Instr.findNow (.int .i64) (.int .i64 k) es i=some (findI k l i)
 | [],[],_,_=>rfl
 | [],_ :: _,_,h=>by simp at h
 | _ :: _,[],_,h=>by simp at h
 | e :: es,p :: l,i,h=>by
  simp only [List.map_cons,List.cons.injEq,Prod.mk.injEq] at h
  obtain ⟨⟨h1,h2⟩,h3⟩:=h
  have e0:Instr.sameNow (.int .i64) (.int .i64 k) e.key=some (k == p.1):=by rw [h1]; simp [Instr.sameNow]
  unfold Instr.findNow findI
  rw [e0,h2]
  by_cases hk:p.1=k
  ·rw [if_pos hk,hk]; simp
  ·rw [if_neg hk]
   have:(k == p.1)=false:=by simpa using Ne.symm hk
   rw [this]
   exact findNow_int k es l (i+1) h3
section
variable {P:Program} {w:World} {T kt et:TypeId} (hT:P.underlying T=some (.map kt et)) (hk:P.underlying kt=some (.int .i64)) {b:Nat} {l:List (Int × Value)} (h:IMap w b l) (k:Int)
include hT hk h
theorem run_lookup_int {z:Value} (hz:(zeroValue et).run P w=.ok z w) :
  (Instr.lookup T (.map (some b)) (.int .i64 k) true).run P w=.ok (match findI k l 0 with | some r=>.tuple #[r.2,.bool true] | none=>.tuple #[z,.bool false]) w:=by
 obtain ⟨es,cl,hb,he⟩:=h
 have hf:=findNow_int k es.toList l 0 he
 cases hfi:findI k l 0 with
 | none =>
  rw [hfi] at hf
  simp [Instr.lookup,run_underlying hT,MapKept.run_getObj_map hb,MapKept.run_checkKey (k:=.int .i64 k) hk rfl,MapKept.run_findKey hk hf,hz,Result.andThen]
 | some r =>
  obtain ⟨i,v⟩:=r
  rw [hfi] at hf
  simp [Instr.lookup,run_underlying hT,MapKept.run_getObj_map hb,MapKept.run_checkKey (k:=.int .i64 k) hk rfl,MapKept.run_findKey hk hf,Result.andThen]
theorem run_update_int (v:Value):∃ o,(Instr.mapUpdate T (.map (some b)) (.int .i64 k) v).run P w=.ok () (setO w b o)∧IMap (setO w b o) b (putI l k v):=by
 obtain ⟨es,cl,hb,he⟩:=h
 have hf:=findNow_int k es.toList l 0 he
 unfold putI
 cases hfi:findI k l 0 with
 | none =>
  rw [hfi] at hf
  refine ⟨.map (es.push ⟨.int .i64 k,v,cl⟩) (cl+1),?_,es.push ⟨.int .i64 k,v,cl⟩,cl+1,setO_at hb,?_⟩
  ·simp [Instr.mapUpdate,run_underlying hT,MapKept.run_getObj_map hb,MapKept.run_checkKey (k:=.int .i64 k) hk rfl,MapKept.run_findKey hk hf,MapKept.run_setObj_map _ hb,Result.andThen,setO]
  ·simp [he]
 | some r =>
  obtain ⟨i,u⟩:=r
  rw [hfi] at hf
  obtain ⟨j,hj,hl⟩:=findI_spec k l 0 _ hfi
  have hj:i=j:=by simpa using hj
  subst hj
  have hm:=congrArg (fun x=>x[i]?) he
  simp only [List.getElem?_map,hl,Option.map_some] at hm
  cases hei:es[i]? with
  | none=>simp [hei] at hm
  | some e =>
   have hke:e.key=.int .i64 k:=by simp [hei] at hm; exact hm.1
   refine ⟨.map (es.modify i fun e=>{ e with key:=.int .i64 k,val:=v }) cl,?_,_,cl,setO_at hb,?_⟩
   ·simp [Instr.mapUpdate,run_underlying hT,MapKept.run_getObj_map hb,MapKept.run_checkKey (k:=.int .i64 k) hk rfl,MapKept.run_findKey hk hf,hei,hke,MapKept.run_keyThatStays (d:=.int .i64) (k:=.int .i64 k) rfl,MapKept.run_setObj_map _ hb,Result.andThen,setO]
   ·apply List.ext_getElem?
    intro q
    have hq:=congrArg (fun x=>x[q]?) he
    simp only [List.getElem?_map,Array.getElem?_toList] at hq
    simp only [List.getElem?_map,Array.toList_modify,List.getElem?_modify,Array.getElem?_toList,List.getElem?_set]
    by_cases hqi:i=q
    ·subst hqi
     have hlt:i<l.length:=(List.getElem?_eq_some_iff.1 hl).1
     simp [hei,hlt]
    ·simp [hqi,hq]
theorem run_delete_int {ty:TypeId}:∃ o,(Builtin.delete_ #[T,kt] ty #[.map (some b),.int .i64 k]).run P w=.ok (.tuple #[]) (setO w b o)∧IMap (setO w b o) b (delI l k):=by
 obtain ⟨es,cl,hb,he⟩:=h
 have hf:=findNow_int k es.toList l 0 he
 unfold delI
 cases hfi:findI k l 0 with
 | none =>
  rw [hfi] at hf
  refine ⟨.map es cl,?_,es,cl,setO_at hb,he⟩
  simp [Builtin.delete_,run_underlying hT,MapKept.run_getObj_map hb,MapKept.run_checkKey (k:=.int .i64 k) hk rfl,MapKept.run_findKey hk hf,MapKept.run_setObj_map _ hb,Result.andThen,setO]
 | some r =>
  obtain ⟨i,u⟩:=r
  rw [hfi] at hf
  refine ⟨.map (es.eraseIdxIfInBounds i) cl,?_,_,cl,setO_at hb,?_⟩
  ·simp [Builtin.delete_,run_underlying hT,MapKept.run_getObj_map hb,MapKept.run_checkKey (k:=.int .i64 k) hk rfl,MapKept.run_findKey hk hf,MapKept.run_setObj_map _ hb,Result.andThen,setO]
  ·have e1:(es.eraseIdxIfInBounds i).toList=es.toList.eraseIdx i:=by
    unfold Array.eraseIdxIfInBounds
    split
    ·simp
    ·rename_i hn
     rw [List.eraseIdx_of_length_le (by simpa using hn)]
   have em:∀ {α β:Type} (f:α→β) (x:List α) (j:Nat),(x.eraseIdx j).map f=(x.map f).eraseIdx j:=fun f x=>by
    induction x with
    | nil=>intro j; rfl
    | cons a x ih =>
     intro j
     cases j with
     | zero=>rfl
     | succ j=>simp [ih]
   rw [e1,em,he,← em]
end
end Go.Proofs.YtajegiifabfcjaaGreatDoor
