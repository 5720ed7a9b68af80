/-
  KpText, KpLay, KpKeep
-/
import Derived.Deep.RegionHeld3
import Derived.Test.YtajegiifabfcjaaGreatDoorQ13
import Derived.Test.YtajegiifabfcjaaGreatDoorQ24
import Derived.Lib.AppendZeros
namespace Go.Proofs.YtajegiifabfcjaaGreatDoor
open Go.RowKit
theorem kText_B (n e:Int) (s:St):bsB (kText n e s)=(⟨#[107,32]⟩:ByteArray) ++ bsB (Lib.itoa n) ++ ⟨#[32]⟩ ++ bsB (Lib.itoa e) ++ ⟨#[32]⟩ ++ bsB (Lib.itoa (stText s).length) ++ ⟨#[32]⟩ ++ bsB (stText s):=by
 rw [show (⟨#[107,32]⟩:ByteArray)=bsB [107,32] from rfl,show (⟨#[32]⟩:ByteArray)=bsB [32] from rfl]
 simp only [bsB_append]
 simp [kText]
set_option maxRecDepth 100000 in
theorem ktext_any (n e:Int) (s:St) (a:Option Addr) (cap:Nat) (w:World) (t:Tabs w) (hr:StR w s a) (hk:KNum n e s) :
  Calls Tryz.prog 111 #[.int .i64 n,.int .i64 e,stV s a cap] w fun e' w'=>e'=.returned (.string (bsB (kText n e s)))∧Below w.heap.size w w':=by
 have HK:=Lib.hid hk
 have TT:=Lib.hid t
 have HR:=Lib.hid hr
 clear hk t hr
 have l1:=itoa_len_any n (by have:=HK.out.n0; omega) (by have:=HK.out.n1; omega)
 have l2:=itoa_len_any e (by have:=HK.out.e0; omega) (by have:=HK.out.e1; omega)
 have l3:=HK.out.g.text_len
 have l4:=itoa_len_any ((stText s).length:Int) (by omega) (by omega)
 obtain ⟨A,hA⟩:∃ A,A=bsB (Lib.itoa n):=⟨_,rfl⟩
 obtain ⟨B,hB⟩:∃ B,B=bsB (Lib.itoa e):=⟨_,rfl⟩
 obtain ⟨C,hC⟩:∃ C,C=bsB (Lib.itoa ((stText s).length:Int)):=⟨_,rfl⟩
 obtain ⟨D,hD⟩:∃ D,D=bsB (stText s):=⟨_,rfl⟩
 have sA:A.size≤20:=by rw [hA,bsB_size]; exact l1
 have sB:B.size≤20:=by rw [hB,bsB_size]; exact l2
 have sC:C.size≤20:=by rw [hC,bsB_size]; exact l4
 have sD:D.size≤48:=by rw [hD,bsB_size]; exact l3
 have HA:=Lib.hid hA
 have HB:=Lib.hid hB
 have HC:=Lib.hid hC
 have HD:=Lib.hid hD
 have HL:=Lib.hid (show (D.size:Int)=((stText s).length:Int) from by rw [hD,bsB_size])
 have z1:(⟨#[32]⟩:ByteArray).size=1:=rfl
 have z2:(⟨#[107,32]⟩:ByteArray).size=2:=rfl
 have a1:=fun w=>run_string_add_sum (P:=Tryz.prog) w (⟨#[107,32]⟩:ByteArray) A (by simp only [z2]; omega)
 have a2:=fun w=>run_string_add_sum (P:=Tryz.prog) w ((⟨#[107,32]⟩:ByteArray) ++ A) ⟨#[32]⟩ (by simp only [ByteArray.size_append,z1,z2]; omega)
 have a3:=fun w=>run_string_add_sum (P:=Tryz.prog) w ((⟨#[107,32]⟩:ByteArray) ++ A ++ ⟨#[32]⟩) B (by simp only [ByteArray.size_append,z1,z2]; omega)
 have a4:=fun w=>run_string_add_sum (P:=Tryz.prog) w ((⟨#[107,32]⟩:ByteArray) ++ A ++ ⟨#[32]⟩ ++ B) ⟨#[32]⟩ (by simp only [ByteArray.size_append,z1,z2]; omega)
 have a5:=fun w=>run_string_add_sum (P:=Tryz.prog) w ((⟨#[107,32]⟩:ByteArray) ++ A ++ ⟨#[32]⟩ ++ B ++ ⟨#[32]⟩) C (by simp only [ByteArray.size_append,z1,z2]; omega)
 have a6:=fun w=>run_string_add_sum (P:=Tryz.prog) w ((⟨#[107,32]⟩:ByteArray) ++ A ++ ⟨#[32]⟩ ++ B ++ ⟨#[32]⟩ ++ C) ⟨#[32]⟩ (by simp only [ByteArray.size_append,z1,z2]; omega)
 have a7:=fun w=>run_string_add_sum (P:=Tryz.prog) w ((⟨#[107,32]⟩:ByteArray) ++ A ++ ⟨#[32]⟩ ++ B ++ ⟨#[32]⟩ ++ C ++ ⟨#[32]⟩) D (by simp only [ByteArray.size_append,z1,z2]; omega)
 clear z1 z2 l1 l2 l3 l4 hA hB hC hD sA sB sC
 go_enter Tryz.func111,Tryz.ntmps111
 go_wp2_with fail
 refine (text_any s a cap _ (TT.out.on (bal w _)) (HR.out.below (bal w _)) HK.out.g.fits (by have:=HK.out.g.regs_len; omega)).mono ?_
 rintro e1 w1 ⟨rfl,b1⟩
 have W1:=Lib.hid ((bal w _).trans (b1.mono (by simp)))
 rw [← HD.out]
 clear b1
 go_wp2_with fail
 refine (itoa_any n _ (TT.out.on W1.out) (by have:=HK.out.n0; omega) (by have:=HK.out.n1; omega)).mono ?_
 rintro e1 w2 ⟨rfl,b2⟩
 have W2:=Lib.hid (W1.out.trans (b2.mono W1.out.size))
 rw [← HA.out]
 clear b2
 go_wp2_with fail
 refine (itoa_any e _ (TT.out.on W2.out) (by have:=HK.out.e0; omega) (by have:=HK.out.e1; omega)).mono ?_
 rintro e1 w3 ⟨rfl,b3⟩
 have W3:=Lib.hid (W2.out.trans (b3.mono W2.out.size))
 rw [← HB.out]
 clear b3
 go_wp2_with fail
 refine (itoa_any (D.size:Int) _ (TT.out.on W3.out) (by omega) (by omega)).mono ?_
 rintro e1 w4 ⟨rfl,b4⟩
 have W4:=Lib.hid (W3.out.trans (b4.mono W3.out.size))
 rw [HL.out,← HC.out]
 clear b4
 go_wp2
 go_ret
 exact ⟨by rw [kText_B,← HA.out,← HB.out,← HC.out,← HD.out]; rfl,W4.out⟩
def lay6 (d:Dk):Dk × Bool:=if d.steps=false then (d.flush,false) else (d.flush,true)
def lay5 (n p:Nat) (A:ByteArray) (d:Dk):Dk × Bool:=if d.steps=false then (d.write n (2*(p:Int)) A,false) else lay6 (d.write n (2*(p:Int)) A)
def lay4 (n p:Nat) (A:ByteArray) (d:Dk):Dk × Bool:=if d.steps=false then (d.flush,false) else lay5 n p A d.flush
def lay3 (n p:Nat) (A B:ByteArray) (d:Dk):Dk × Bool:=if d.steps=false then (d.write n (2*(p:Int)+1) B,false) else lay4 n p A (d.write n (2*(p:Int)+1) B)
def lay2 (n p:Nat) (A B:ByteArray) (d:Dk):Dk × Bool:=if d.steps=false then (d.flush,false) else lay3 n p A B d.flush
def lay1 (n p:Nat) (A B:ByteArray) (d:Dk):Dk × Bool:=if d.steps=false then (d.write n (2*(p:Int)) ⟨#[]⟩,false) else lay2 n p A B (d.write n (2*(p:Int)) ⟨#[]⟩)
theorem layD_eq (n p:Nat) (A B:ByteArray) (d:Dk):layD n d p A B=lay1 n p A B d:=by
 unfold layD lay1 lay2 lay3 lay4 lay5 lay6
 have e1:((2*p:Nat):Int)=2*(p:Int):=by omega
 have e2:((2*p+1:Nat):Int)=2*(p:Int)+1:=by omega
 rw [e1,e2]
theorem Dk.writeF_of {n:Nat} {d:Dk} {p:Int} {s:ByteArray} (h0:0≤p) (hp:p<n) (hs:s.size≤64):d.writeF n p s=if d.steps then 0 else 10:=by
 unfold Dk.writeF
 rw [if_neg (by omega)]
structure KpR (S:Nat→Prop) (w:World) (K D n:Nat) (a:Option Addr) (cap:Nat) (k:Kp):Prop where
 blk:w.heap[K]?=some (.cells #[.pointer (some ⟨D,0,none⟩),.int .i64 k.num,.int .i64 k.ep,.int .i64 k.s.gen,.slice a k.s.regs.length cap,.int .i64 k.s.typ,.int .i64 k.s.holder,.bool k.s.stays] 149 (0,0))
 dk:DkAt S w 132 134 D n k.d
 nk:¬ S K
 lt:∀ b,S b→b<w.heap.size
 str:StR w k.s a
 ap:∀ b o,a=some ⟨b,o,none⟩→k.s.regs≠[]→¬ S b∧b≠K
def KpPost (A0:Option Addr→Prop) (S:Nat→Prop) (w:World) (K D n:Nat) (r:Kp × Int) (e:Ending) (w':World):Prop :=
 e=.returned (errV r.2)∧∃ S' a cap,KpR S' w' K D n a cap r.1∧(∀ b,S' b→grow S w w' b)∧Keeps (fun b=>S b∨b=K) w w'∧A0 a
structure LF (S0:Nat→Prop) (w:World) (K D n B:Nat) (a a':Option Addr) (cap cap':Nat) (k:Kp) (s:St) (S:Nat→Prop) (d:Dk) (wx:World):Prop where
 blk:wx.heap[K]?=some (.cells #[.pointer (some ⟨D,0,none⟩),.int .i64 k.num,.int .i64 k.ep,.int .i64 k.s.gen,.slice a k.s.regs.length cap,.int .i64 k.s.typ,.int .i64 k.s.holder,.bool k.s.stays] 149 (0,0))
 box:wx.heap[B]?=some (.cells #[.int .i64 s.gen,.slice a' s.regs.length cap',.int .i64 s.typ,.int .i64 s.holder,.bool s.stays] 35 (0,0))
 dk:DkAt S wx 132 134 D n d
 nk:¬ S K
 nb:¬ S B
 lt:∀ b,S b→b<wx.heap.size
 sub:∀ b,S b→grow S0 w wx b
 keep:Keeps S0 w wx
section
variable {S0 S:Nat→Prop} {w wx w':World} {K D n B:Nat} {a a':Option Addr} {cap cap':Nat} {k:Kp} {s:St} {d d':Dk}
theorem LF.next (f:LF S0 w K D n B a a' cap cap' k s S d wx) (h:DkAt (grow S wx w') w' 132 134 D n d') (kp:Keeps S wx w'):LF S0 w K D n B a a' cap cap' k s (grow S wx w') d' w':=by
 have hK:=(Array.getElem?_eq_some_iff.1 f.blk).1
 have hB:=(Array.getElem?_eq_some_iff.1 f.box).1
 refine ⟨(kp.block K f.nk hK).trans f.blk,(kp.block B f.nb hB).trans f.box,h,fun e=>?_,fun e=>?_,fun b e=>?_,fun b e=>?_,?_⟩
 ·rcases e with e | e
  ·exact f.nk e
  ·omega
 ·rcases e with e | e
  ·exact f.nb e
  ·omega
 ·rcases e with e | e
  ·exact Nat.lt_of_lt_of_le (f.lt b e) kp.size
  ·exact e.2
 ·rcases e with e | e
  ·rcases f.sub b e with e | e
   ·exact .inl e
   ·exact .inr ⟨e.1,Nat.lt_of_lt_of_le e.2 kp.size⟩
  ·exact .inr ⟨Nat.le_trans f.keep.size e.1,e.2⟩
 ·refine ⟨kp.os.trans f.keep.os,kp.tape.trans f.keep.tape,kp.output.trans f.keep.output,Nat.le_trans f.keep.size kp.size,fun b hb hlt=>?_⟩
  refine (kp.block b (fun e=>?_) (Nat.lt_of_lt_of_le hlt f.keep.size)).trans (f.keep.block b hb hlt)
  rcases f.sub b e with e | e
  ·exact hb e
  ·omega
theorem LF.same (f:LF S0 w K D n B a a' cap cap' k s S d wx) (h:DkAt S w' 132 134 D n d') (kp:Keeps S wx w'):LF S0 w K D n B a a' cap cap' k s (grow S wx w') d' w' :=
 f.next (h.mono (fun _ hk=>.inl hk)) kp
theorem LF.over (f:LF S0 w K D n B a a' cap cap' k s S d wx) (b:Below wx.heap.size wx w'):LF S0 w K D n B a a' cap cap' k s (grow S wx w') d w':=f.same (f.dk.below b) (Keeps.of_below b)
end
theorem StR.keeps {S:Nat→Prop} {w w':World} {s:St} {a:Option Addr} (h:StR w s a) (k:Keeps S w w') (ap:∀ b o,a=some ⟨b,o,none⟩→s.regs≠[]→¬ S b):StR w' s a:=by
 refine ⟨h.len,fun i hi=>?_⟩
 obtain ⟨b,o,rfl,hb,c1,c2⟩:=h.rep i hi
 have hn:=ap b o rfl (fun e=>by rw [e] at hi; simp at hi)
 exact ⟨b,o,rfl,Nat.lt_of_lt_of_le hb k.size,(k.cell hn hb).trans c1,(k.cell hn hb).trans c2⟩
theorem StR.blt {w:World} {s:St} {b o:Nat} (h:StR w s (some ⟨b,o,none⟩)) (hn:s.regs≠[]):b<w.heap.size:=by
 obtain ⟨b',o',e,hb,-⟩:=h.rep 0 (List.length_pos_iff.2 hn)
 obtain ⟨rfl,-⟩:b=b'∧o=o':=by simpa using e
 exact hb
theorem kp_drew {A0:Option Addr→Prop} {S:Nat→Prop} {w w':World} {K D n:Nat} {r:Kp × Int} {e:Ending} (h:KpPost A0 S w K D n r e w'):KpPost A0 S w K D n r e w'.drew:=by
 obtain ⟨he,S',a,cap,hk,hs,kk,ha⟩:=h
 exact ⟨he,S',a,cap,⟨hk.blk,hk.dk.keeps (R:=fun _=>False) (Keeps.refl _ _).drew (fun _ _ h=>h),hk.nk,hk.lt,⟨hk.str.len,hk.str.rep⟩,hk.ap⟩,hs,kk.drew,ha⟩
theorem ext_B (l:Bs):(bsB l).extract (min ((bsB l).size:Int) 64).toNat (bsB l).size=bsB (l.drop 64):=by
 apply ByteArray.ext
 rw [ByteArray.data_extract,bsB_size]
 apply Array.toList_inj.1
 simp only [bsB,Array.toList_extract,List.extract_eq_take_drop]
 by_cases h:l.length≤64
 ·rw [List.drop_of_length_le (l:=l) h]
  have:(min (l.length:Int) 64).toNat=l.length:=by omega
  rw [this]; simp
 ·have:(min (l.length:Int) 64).toNat=64:=by omega
  rw [this,List.take_of_length_le (by simp)]
theorem ext_A (l:Bs):(bsB l).extract 0 (min ((bsB l).size:Int) 64).toNat=bsB (l.take 64):=by
 apply ByteArray.ext
 rw [ByteArray.data_extract,bsB_size]
 apply Array.toList_inj.1
 simp only [bsB,Array.toList_extract,List.extract_eq_take_drop,List.drop_zero,Nat.sub_zero]
 by_cases h:l.length≤64
 ·have:(min (l.length:Int) 64).toNat=l.length:=by omega
  rw [this,List.take_of_length_le h,List.take_of_length_le (Nat.le_refl _)]
 ·have:(min (l.length:Int) 64).toNat=64:=by omega
  rw [this]
section
variable {S0 S:Nat→Prop} {w wx:World} {K D n B:Nat} {a a':Option Addr} {cap cap':Nat} {k:Kp} {s:St} {d:Dk}
theorem lf_keeper (f:LF S0 w K D n B a a' cap cap' k s S d wx) :
  (wx.cell? ⟨K,1,none⟩=some (.int .i64 k.num)∧wx.cell? ⟨K,2,none⟩=some (.int .i64 k.ep)∧wx.cell? ⟨K,3,none⟩=some (.int .i64 k.s.gen)∧wx.cell? ⟨K,4,none⟩=some (.slice a k.s.regs.length cap)∧wx.cell? ⟨K,5,none⟩=some (.int .i64 k.s.typ)∧wx.cell? ⟨K,6,none⟩=some (.int .i64 k.s.holder)∧wx.cell? ⟨K,7,none⟩=some (.bool k.s.stays)) ∧
  wx.frozen? ⟨K,1,none⟩=false∧wx.frozen? ⟨K,2,none⟩=false∧wx.frozen? ⟨K,3,none⟩=false∧wx.frozen? ⟨K,4,none⟩=false∧wx.frozen? ⟨K,5,none⟩=false∧wx.frozen? ⟨K,6,none⟩=false∧wx.frozen? ⟨K,7,none⟩=false:=by
 have h1:=f.blk
 simp [World.cell?,World.frozen?,h1]
theorem lf_fail (f:LF S0 w K D n B a a' cap cap' k s S d wx) (h:KpR S0 w K D n a cap k):KpPost (fun q=>(q=a∧k.s=k.s)∨q=a') S0 w K D n ({ k with d:=d },10) (.returned (errV 10)) wx:=by
 refine ⟨rfl,S,a,cap,⟨f.blk,f.dk,f.nk,f.lt,h.str.keeps f.keep (fun b o e hn=>(h.ap b o e hn).1),fun b o e hn=>⟨fun hS=>?_,(h.ap b o e hn).2⟩⟩,f.sub,f.keep.mono (fun _ e=>.inl e),.inl ⟨rfl,rfl⟩⟩
 subst e
 have hb:=h.str.blt hn
 rcases f.sub b hS with e | e
 ·exact (h.ap b o rfl hn).1 e
 ·omega
def sevens (wx:World) (K:Nat) (v1 v2 v3 v4 v5 v6 v7:Value):World:=((((((wx.setCell ⟨K,1,none⟩ v1).setCell ⟨K,2,none⟩ v2).setCell ⟨K,3,none⟩ v3).setCell ⟨K,4,none⟩ v4).setCell ⟨K,5,none⟩ v5).setCell ⟨K,6,none⟩ v6).setCell ⟨K,7,none⟩ v7
theorem sevens_at {wx:World} {K:Nat} {x0 x1 x2 x3 x4 x5 x6 x7:Value} {Ty:TypeId} (h:wx.heap[K]?=some (.cells #[x0,x1,x2,x3,x4,x5,x6,x7] Ty (0,0))) (v1 v2 v3 v4 v5 v6 v7:Value) :
  (sevens wx K v1 v2 v3 v4 v5 v6 v7).heap[K]?=some (.cells #[x0,v1,v2,v3,v4,v5,v6,v7] Ty (0,0)) :=
 by
 have h1:=block_setCell (o:=1) h v1
 have h2:=block_setCell (o:=2) h1 v2
 have h3:=block_setCell (o:=3) h2 v3
 have h4:=block_setCell (o:=4) h3 v4
 have h5:=block_setCell (o:=5) h4 v5
 have h6:=block_setCell (o:=6) h5 v6
 have h7:=block_setCell (o:=7) h6 v7
 unfold sevens
 simpa only [List.setIfInBounds_toArray,List.set_cons_succ,List.set_cons_zero] using h7
theorem kset {N:Nat} {a w:World} (h:Keeps (·=N) a w) (o:Nat) (u:Value):Keeps (·=N) a (w.setCell ⟨N,o,none⟩ u):=Keeps.setCell (S:=(·=N)) h rfl u
theorem sevens_keeps (wx:World) (K:Nat) (v1 v2 v3 v4 v5 v6 v7:Value):Keeps (·=K) wx (sevens wx K v1 v2 v3 v4 v5 v6 v7) :=
 kset (kset (kset (kset (kset (kset (kset (Keeps.refl _ _) 1 v1) 2 v2) 3 v3) 4 v4) 5 v5) 6 v6) 7 v7
theorem lf_done (f:LF S0 w K D n B a a' cap cap' k s S d wx) (hr:StR w s a') (hx:∀ b o,a'=some ⟨b,o,none⟩→s.regs≠[]→¬ S0 b∧b≠K) (ep:Int) :
  KpPost (fun q=>(q=a∧s=k.s)∨q=a') S0 w K D n (⟨d,k.num+1,ep,s⟩,0) (.returned (errV 0)) (sevens wx K (.int .i64 (k.num+1)) (.int .i64 ep) (.int .i64 s.gen) (.slice a' s.regs.length cap') (.int .i64 s.typ) (.int .i64 s.holder) (.bool s.stays)):=by
 obtain ⟨w',hw'⟩:∃ w',w'=sevens wx K (.int .i64 (k.num+1)) (.int .i64 ep) (.int .i64 s.gen) (.slice a' s.regs.length cap') (.int .i64 s.typ) (.int .i64 s.holder) (.bool s.stays):=⟨_,rfl⟩
 have kk:Keeps (·=K) wx w':=hw'▸sevens_keeps _ _ _ _ _ _ _ _ _
 have hb:=hw'▸sevens_at f.blk (.int .i64 (k.num+1)) (.int .i64 ep) (.int .i64 s.gen) (.slice a' s.regs.length cap') (.int .i64 s.typ) (.int .i64 s.holder) (.bool s.stays)
 rw [← hw']
 have k2:Keeps (fun b=>S0 b∨b=K) w w':=(f.keep.mono (fun _ e=>.inl e)).trans (kk.mono (fun _ e=>.inr e))
 have hs:w.heap.size≤w'.heap.size:=k2.size
 have hs1:=f.keep.size
 refine ⟨rfl,S,a',cap',⟨hb,f.dk.keeps kk (fun b e h=>f.nk (h▸e)),f.nk,fun b e=>Nat.lt_of_lt_of_le (f.lt b e) kk.size,hr.keeps k2 (fun b o e hn h=>?_),fun b o e hn=>⟨fun hS=>?_,(hx b o e hn).2⟩⟩,fun b e=>?_,k2,.inr rfl⟩
 ·rcases h with h | h
  ·exact (hx b o e hn).1 h
  ·exact (hx b o e hn).2 h
 ·subst e
  have hb:=hr.blt hn
  rcases f.sub b hS with e | e
  ·exact (hx b o rfl hn).1 e
  ·omega
 ·rcases f.sub b e with e | e
  ·exact .inl e
  ·exact .inr ⟨e.1,Nat.lt_of_lt_of_le e.2 kk.size⟩
end
theorem lf_cells {S0 S:Nat→Prop} {w wx:World} {K D n B:Nat} {a a':Option Addr} {cap cap':Nat} {k:Kp} {s:St} {d:Dk} (f:LF S0 w K D n B a a' cap cap' k s S d wx) :
  wx.cell? ⟨K,0,none⟩=some (.pointer (some ⟨D,0,none⟩))∧wx.cell? ⟨K,1,none⟩=some (.int .i64 k.num)∧wx.cell? ⟨B,0,none⟩=some (.int .i64 s.gen)∧wx.cell? ⟨B,1,none⟩=some (.slice a' s.regs.length cap')∧wx.cell? ⟨B,2,none⟩=some (.int .i64 s.typ)∧wx.cell? ⟨B,3,none⟩=some (.int .i64 s.holder)∧wx.cell? ⟨B,4,none⟩=some (.bool s.stays):=by
 have h1:=f.blk
 have h2:=f.box
 simp [World.cell?,h1,h2]
set_option maxRecDepth 100000 in
set_option maxHeartbeats 4000000 in
theorem lay_any (S:Nat→Prop) (w:World) (K D n:Nat) (a a':Option Addr) (cap cap':Nat) (k:Kp) (ep:Int) (s:St) (h:KpR S w K D n a cap k) (ok:k.d.ok n) (hwl:k.d.wait.length≤900) (n6:6≤n)
  (h0:0≤k.num) (hk:KNum (k.num+1) ep s) (hr:StR w s a') (hx:∀ b o,a'=some ⟨b,o,none⟩→s.regs≠[]→¬ S b∧b≠K) (t:Tabs w) :
  Calls Tryz.prog 87 #[.pointer (some ⟨K,0,none⟩),.int .i64 ep,stV s a' cap'] w fun e w'=>KpPost (fun q=>(q=a∧(k.lay n ep s).1.s=k.s)∨q=a') S w K D n (k.lay n ep s) e w':=by
 have HH:=Lib.hid h
 have OK:=Lib.hid ok
 have HWL:=Lib.hid hwl
 have HK:=Lib.hid hk
 have HR:=Lib.hid hr
 have HX:=Lib.hid hx
 have TT:=Lib.hid t
 have KLT:=Lib.hid (Array.getElem?_eq_some_iff.1 h.blk).1
 clear h ok hwl hr hx t
 obtain ⟨p,hp⟩:∃ p,p=par (k.num+1):=⟨_,rfl⟩
 obtain ⟨A,hA⟩:∃ A,A=kA (k.num+1) ep s:=⟨_,rfl⟩
 obtain ⟨B,hB⟩:∃ B,B=kB (k.num+1) ep s:=⟨_,rfl⟩
 obtain ⟨T,hT⟩:∃ T,T=bsB (kText (k.num+1) ep s):=⟨_,rfl⟩
 have RES:=Lib.hid (show k.lay n ep s=(let r:=lay1 n p A B k.d; if r.2 then (⟨r.1,k.num+1,ep,s⟩,0) else ({ k with d:=r.1 },10)) from by
  unfold Kp.lay; rw [layD_eq,hp,hA,hB])
 have p2:p<2:=hp▸par_lt _
 have qp:Int.tmod (k.num+1) 2=(p:Int):=by
  rw [hp]; unfold par; rw [Int.tmod_eq_emod_of_nonneg (by omega)]; omega
 have AS:=Lib.hid (show A.size≤64 from hA▸KNum.kA_size)
 have BS:=Lib.hid (show B.size≤64 from hB▸hk.kB_size)
 have HT:=Lib.hid hT
 have hn1:=hk.n1
 have TL:=Lib.hid (show T.size=(kText (k.num+1) ep s).length∧T.size≤100 from by rw [hT,bsB_size]; exact ⟨rfl,hk.len⟩)
 have EXB:=Lib.hid (show T.extract (min (T.size:Int) 64).toNat T.size=B from by
  rw [hB,hT]; exact ext_B _)
 have EXA:=Lib.hid (show T.extract 0 (min (T.size:Int) 64).toNat=A from by
  rw [hA,hT]; exact ext_A _)
 have m0:(0:Int)≤min (T.size:Int) 64:=by omega
 have m1:min (T.size:Int) 64≤(T.size:Int):=by omega
 clear hp hA hB hT hk
 have hblk:=HH.out.blk
 have hc:w.cell? ⟨K,0,none⟩=some (.pointer (some ⟨D,0,none⟩))∧w.cell? ⟨K,1,none⟩=some (.int .i64 k.num):=by simp [World.cell?,hblk]
 obtain ⟨c0,c1⟩:=hc
 have hK:=KLT.out
 go_enter Tryz.func87,Tryz.ntmps87
 go_wp2_with fail
 refine (ktext_any (k.num+1) ep s a' cap' _ (TT.out.on (bal w _)) (HR.out.below (bal w _)) HK.out).mono ?_
 rintro e w1 ⟨rfl,b1⟩
 rw [← HT.out]
 have F1:=Lib.hid (show LF S w K D n w.heap.size a a' cap cap' k s S k.d w1 from
  ⟨(b1.block K (by simp; omega)).trans ((Below.heap_alloc _ _ _ hK).trans hblk),(b1.block w.heap.size (by simp)).trans (heap_alloc_new w _),HH.out.dk.below ((bal w _).trans (b1.mono (by simp))),HH.out.nk,fun e=>by have:=HH.out.lt _ e; omega,
   fun b e=>by have:=HH.out.lt b e; have:=((bal w _).trans (b1.mono (by simp))).size; omega,fun b e=>.inl e,Keeps.of_below ((bal w _).trans (b1.mono (by simp)))⟩)
 clear b1 hblk c0 c1
 obtain ⟨c0,c1,z0,z1,z2,z3,z4⟩:=lf_cells F1.out
 go_wp2_with fail
 refine (dwrite_any _ _ D n k.d (2*(p:Int)) ⟨#[]⟩ F1.out.dk OK.out (by have:=HWL.out; omega)).mono ?_
 rintro e w2 ⟨rfl,hd,kp⟩
 rw [Dk.writeF_of (by omega) (by omega) (by decide)]
 have F2:=Lib.hid (F1.out.next hd kp)
 clear hd kp c0 c1 z0 z1 z2 z3 z4
 by_cases st0:k.d.steps=false
 ·have LF:=Lib.hid (show lay1 n p A B k.d=(k.d.write n (2*(p:Int)) ⟨#[]⟩,false) from (if_pos st0))
  rw [st0]
  simp only [Bool.false_eq_true,if_false]
  rw [errV_some (show (10:Int)≠0 by decide)]
  clear st0
  go_wp2
  go_ret
  have h:=lf_fail F2.out HH.out
  rw [RES.out,LF.out]
  exact h
 have LL1:=Lib.hid (show lay1 n p A B k.d=lay2 n p A B (k.d.write n (2*(p:Int)) ⟨#[]⟩) from (if_neg st0))
 have ST0:k.d.steps=true:=by simpa using st0
 rw [ST0]
 simp only [if_true]
 rw [errV_nil]
 have OK1:=Lib.hid (Dk.write_ok OK.out (2*(p:Int)) ⟨#[]⟩)
 obtain ⟨d1,hnd⟩:∃ x,x=k.d.write n (2*(p:Int)) ⟨#[]⟩:=⟨_,rfl⟩
 rw [← hnd] at F2 LL1 OK1
 clear hnd st0 ST0
 obtain ⟨c0,c1,z0,z1,z2,z3,z4⟩:=lf_cells F2.out
 go_wp2_with fail
 refine (dflush_any _ _ D n d1 F2.out.dk OK1.out).mono ?_
 rintro e w3 ⟨rfl,hd,kp⟩
 have F3:=Lib.hid (F2.out.same hd kp)
 clear hd kp c0 c1 z0 z1 z2 z3 z4
 by_cases st1:d1.steps=false
 ·have LF:=Lib.hid (show lay1 n p A B k.d=(d1.flush,false) from LL1.out.trans (if_pos st1))
  rw [st1]
  simp only [Bool.false_eq_true,if_false]
  rw [errV_some (show (10:Int)≠0 by decide)]
  clear st1
  go_wp2
  go_ret
  have h:=lf_fail F3.out HH.out
  rw [RES.out,LF.out]
  exact h
 have LL2:=Lib.hid (show lay1 n p A B k.d=lay3 n p A B (d1.flush) from LL1.out.trans (if_neg st1))
 have ST1:d1.steps=true:=by simpa using st1
 have WN:(d1.flush).wait.length≤900:=by rw [Dk.flush_steps ST1]; simp
 rw [ST1]
 simp only [if_true]
 rw [errV_nil]
 have OK2:=Lib.hid (Dk.flush_ok' OK1.out)
 obtain ⟨d2,hnd⟩:∃ x,x=d1.flush:=⟨_,rfl⟩
 rw [← hnd] at F3 LL2 OK2 WN
 clear hnd st1 ST1
 have HW2:=Lib.hid WN
 clear WN
 obtain ⟨c0,c1,z0,z1,z2,z3,z4⟩:=lf_cells F3.out
 go_upto_region 8 with fail
 have FD:=Lib.hid (F3.out.over (Below.refl _ _).drew)
 have QD:=Lib.hid (lf_cells FD.out).1
 have DW:=Lib.hid (dwrite_any _ _ D n d2 (2*(p:Int)+1) (T.extract (min (T.size:Int) 64).toNat T.size) FD.out.dk OK2.out (by have:=HW2.out; omega))
 have q1:IntKind.i64.wrap (2*(p:Int))=2*(p:Int):=IntWalk.i64_in _ (by omega)
 have q2:IntKind.i64.wrap (2*(p:Int)+1)=2*(p:Int)+1:=IntWalk.i64_in _ (by omega)
 go_region_held3 (fun w'=>w'.cell? ⟨K,0,none⟩=some (.pointer (some ⟨D,0,none⟩)))
  (first | assumption | exact QD.out)
  (first | ((with_reducible refine DW.out.mono ?_); rintro e w4 ⟨rfl,hd,kp⟩; have c9:=(lf_cells (FD.out.next hd kp)).1))
 have F4:=Lib.hid (FD.out.next hd kp)
 rw [EXB.out,Dk.writeF_of (by omega) (by omega) BS.out]
 rw [EXB.out] at F4
 clear c9 DW QD FD q1 q2
 clear hd kp c0 c1 z0 z1 z2 z3 z4
 by_cases st2:d2.steps=false
 ·have LF:=Lib.hid (show lay1 n p A B k.d=(d2.write n (2*(p:Int)+1) B,false) from LL2.out.trans (if_pos st2))
  rw [st2]
  simp only [Bool.false_eq_true,if_false]
  rw [errV_some (show (10:Int)≠0 by decide)]
  clear st2
  go_wp2
  go_ret
  have h:=lf_fail F4.out HH.out
  rw [RES.out,LF.out]
  exact h
 have LL3:=Lib.hid (show lay1 n p A B k.d=lay4 n p A (d2.write n (2*(p:Int)+1) B) from LL2.out.trans (if_neg st2))
 have ST2:d2.steps=true:=by simpa using st2
 rw [ST2]
 simp only [if_true]
 rw [errV_nil]
 have OK3:=Lib.hid (Dk.write_ok OK2.out (2*(p:Int)+1) B)
 obtain ⟨d3,hnd⟩:∃ x,x=d2.write n (2*(p:Int)+1) B:=⟨_,rfl⟩
 rw [← hnd] at F4 LL3 OK3
 clear hnd st2 ST2
 obtain ⟨c0,c1,z0,z1,z2,z3,z4⟩:=lf_cells F4.out
 go_wp2_with fail
 refine (dflush_any _ _ D n d3 F4.out.dk OK3.out).mono ?_
 rintro e w5 ⟨rfl,hd,kp⟩
 have F5:=Lib.hid (F4.out.same hd kp)
 clear hd kp c0 c1 z0 z1 z2 z3 z4
 by_cases st3:d3.steps=false
 ·have LF:=Lib.hid (show lay1 n p A B k.d=(d3.flush,false) from LL3.out.trans (if_pos st3))
  rw [st3]
  simp only [Bool.false_eq_true,if_false]
  rw [errV_some (show (10:Int)≠0 by decide)]
  clear st3
  go_wp2
  go_ret
  have h:=lf_fail F5.out HH.out
  rw [RES.out,LF.out]
  exact h
 have LL4:=Lib.hid (show lay1 n p A B k.d=lay5 n p A (d3.flush) from LL3.out.trans (if_neg st3))
 have ST3:d3.steps=true:=by simpa using st3
 have WN:(d3.flush).wait.length≤900:=by rw [Dk.flush_steps ST3]; simp
 rw [ST3]
 simp only [if_true]
 rw [errV_nil]
 have OK4:=Lib.hid (Dk.flush_ok' OK3.out)
 obtain ⟨d4,hnd⟩:∃ x,x=d3.flush:=⟨_,rfl⟩
 rw [← hnd] at F5 LL4 OK4 WN
 clear hnd st3 ST3
 have HW4:=Lib.hid WN
 clear WN
 obtain ⟨c0,c1,z0,z1,z2,z3,z4⟩:=lf_cells F5.out
 go_upto_region 12 with fail
 have FD:=Lib.hid (F5.out.over (Below.refl _ _).drew)
 have QD:=Lib.hid (lf_cells FD.out).1
 have DW:=Lib.hid (dwrite_any _ _ D n d4 (2*(p:Int)) (T.extract 0 (min (T.size:Int) 64).toNat) FD.out.dk OK4.out (by have:=HW4.out; omega))
 have q1:IntKind.i64.wrap (2*(p:Int))=2*(p:Int):=IntWalk.i64_in _ (by omega)
 have q2:IntKind.i64.wrap (2*(p:Int)+1)=2*(p:Int)+1:=IntWalk.i64_in _ (by omega)
 go_region_held3 (fun w'=>w'.cell? ⟨K,0,none⟩=some (.pointer (some ⟨D,0,none⟩)))
  (first | assumption | exact QD.out)
  (first | ((with_reducible refine DW.out.mono ?_); rintro e w6 ⟨rfl,hd,kp⟩; have c9:=(lf_cells (FD.out.next hd kp)).1))
 have F6:=Lib.hid (FD.out.next hd kp)
 rw [EXA.out,Dk.writeF_of (by omega) (by omega) AS.out]
 rw [EXA.out] at F6
 clear c9 DW QD FD q1 q2
 clear hd kp c0 c1 z0 z1 z2 z3 z4
 by_cases st4:d4.steps=false
 ·have LF:=Lib.hid (show lay1 n p A B k.d=(d4.write n (2*(p:Int)) A,false) from LL4.out.trans (if_pos st4))
  rw [st4]
  simp only [Bool.false_eq_true,if_false]
  rw [errV_some (show (10:Int)≠0 by decide)]
  clear st4
  go_wp2
  go_ret
  have h:=lf_fail F6.out HH.out
  rw [RES.out,LF.out]
  exact h
 have LL5:=Lib.hid (show lay1 n p A B k.d=lay6 (d4.write n (2*(p:Int)) A) from LL4.out.trans (if_neg st4))
 have ST4:d4.steps=true:=by simpa using st4
 rw [ST4]
 simp only [if_true]
 rw [errV_nil]
 have OK5:=Lib.hid (Dk.write_ok OK4.out (2*(p:Int)) A)
 obtain ⟨d5,hnd⟩:∃ x,x=d4.write n (2*(p:Int)) A:=⟨_,rfl⟩
 rw [← hnd] at F6 LL5 OK5
 clear hnd st4 ST4
 obtain ⟨c0,c1,z0,z1,z2,z3,z4⟩:=lf_cells F6.out
 go_wp2_with fail
 refine (dflush_any _ _ D n d5 F6.out.dk OK5.out).mono ?_
 rintro e w7 ⟨rfl,hd,kp⟩
 have F7:=Lib.hid (F6.out.same hd kp)
 clear hd kp c0 c1 z0 z1 z2 z3 z4
 by_cases st5:d5.steps=false
 ·have LF:=Lib.hid (show lay1 n p A B k.d=(d5.flush,false) from LL5.out.trans (if_pos st5))
  rw [st5]
  simp only [Bool.false_eq_true,if_false]
  rw [errV_some (show (10:Int)≠0 by decide)]
  clear st5
  go_wp2
  go_ret
  have h:=lf_fail F7.out HH.out
  rw [RES.out,LF.out]
  exact h
 have LL6:=Lib.hid (show lay1 n p A B k.d=(d5.flush,true) from LL5.out.trans (if_neg st5))
 have ST5:d5.steps=true:=by simpa using st5
 have WN:(d5.flush).wait.length≤900:=by rw [Dk.flush_steps ST5]; simp
 rw [ST5]
 simp only [if_true]
 rw [errV_nil]
 have OK6:=Lib.hid (Dk.flush_ok' OK5.out)
 obtain ⟨d6,hnd⟩:∃ x,x=d5.flush:=⟨_,rfl⟩
 rw [← hnd] at F7 LL6 OK6 WN
 clear hnd st5 ST5
 have HW6:=Lib.hid WN
 clear WN
 obtain ⟨c0,c1,z0,z1,z2,z3,z4⟩:=lf_cells F7.out
 go_upto_region 16 with fail
 obtain ⟨⟨y1,y2,y3,y4,y5,y6,y7⟩,f1,f2,f3,f4,f5,f6,f7⟩:=lf_keeper F7.out
 have hne:w.heap.size≠K:=by omega
 have KEEP:=Lib.hid (show ∀ w',Keeps (·=K) w7 w'→Keeps (·=K) w7 w'∧w'.cell? ⟨w.heap.size,0,none⟩=some (.int .i64 s.gen)∧w'.cell? ⟨w.heap.size,1,none⟩=some (.slice a' s.regs.length cap')∧w'.cell? ⟨w.heap.size,2,none⟩=some (.int .i64 s.typ)∧w'.cell? ⟨w.heap.size,3,none⟩=some (.int .i64 s.holder)∧w'.cell? ⟨w.heap.size,4,none⟩=some (.bool s.stays) from fun w' kp=>by
  have hlt:w.heap.size<w7.heap.size:=(Array.getElem?_eq_some_iff.1 F7.out.box).1
  have e:=fun o=>kp.cell (b:=w.heap.size) (o:=o) hne hlt
  exact ⟨kp,(e 0).trans z0,(e 1).trans z1,(e 2).trans z2,(e 3).trans z3,(e 4).trans z4⟩)
 go_region_held3 (fun w'=>Keeps (·=K) w7 w'∧w'.cell? ⟨w.heap.size,0,none⟩=some (.int .i64 s.gen)∧w'.cell? ⟨w.heap.size,1,none⟩=some (.slice a' s.regs.length cap')∧w'.cell? ⟨w.heap.size,2,none⟩=some (.int .i64 s.typ)∧w'.cell? ⟨w.heap.size,3,none⟩=some (.int .i64 s.holder)∧w'.cell? ⟨w.heap.size,4,none⟩=some (.bool s.stays))
  (first | (refine KEEP.out _ ?_; first | (with_reducible exact (Keeps.refl _ _).drew) | (with_reducible exact (kset (Keeps.refl _ _) _ _).drew) | (with_reducible exact (kset (kset (Keeps.refl _ _) _ _) _ _).drew) | (with_reducible exact (kset (kset (kset (kset (kset (kset (kset (Keeps.refl _ _) _ _) _ _) _ _) _ _) _ _) _ _) _ _).drew)))
  (fail)
 go_wp2
 go_ret
 have h:=kp_drew (lf_done F7.out HR.out HX.out ep)
 rw [RES.out,LL6.out]
 exact h
theorem KpR.below {S:Nat→Prop} {w w':World} {K D n:Nat} {a:Option Addr} {cap:Nat} {k:Kp} (h:KpR S w K D n a cap k) (b:Below w.heap.size w w'):KpR S w' K D n a cap k :=
 ⟨(b.block K (Array.getElem?_eq_some_iff.1 h.blk).1).trans h.blk,h.dk.below b,h.nk,fun q e=>Nat.lt_of_lt_of_le (h.lt q e) b.size,h.str.below b,h.ap⟩
theorem kp_under {A0 A1:Option Addr→Prop} {S:Nat→Prop} {w w1 w':World} {K D n:Nat} {r:Kp × Int} {e:Ending} (b:Below w.heap.size w w1) (h:KpPost A0 S w1 K D n r e w') (hA:∀ q,A0 q→A1 q):KpPost A1 S w K D n r e w':=by
 obtain ⟨he,S',a,cap,hk,hs,kk,ha⟩:=h
 refine ⟨he,S',a,cap,hk,fun q e=>?_,(Keeps.of_below b).trans kk,hA _ ha⟩
 rcases hs q e with e | e
 ·exact .inl e
 ·exact .inr ⟨Nat.le_trans b.size e.1,e.2⟩
theorem kp_same {S:Nat→Prop} {w w':World} {K D n:Nat} {a:Option Addr} {cap:Nat} {k:Kp} (h:KpR S w K D n a cap k) (b:Below w.heap.size w w') (f:Int):KpPost (fun q=>(q=a∧k.s=k.s)∨∀ b o,q=some ⟨b,o,none⟩→w.heap.size≤b) S w K D n (k,f) (.returned (errV f)) w' :=
 ⟨rfl,S,a,cap,h.below b,fun _ e=>.inl e,Keeps.of_below b,.inl ⟨rfl,rfl⟩⟩
set_option maxRecDepth 100000 in
set_option maxHeartbeats 4000000 in
theorem keep_any (S:Nat→Prop) (w:World) (K D n:Nat) (a a':Option Addr) (cap cap':Nat) (k:Kp) (ep:Int) (s:St) (h:KpR S w K D n a cap k) (ok:k.d.ok n) (hwl:k.d.wait.length≤900) (n6:6≤n)
  (h0:0≤k.num) (h1:k.num<1000000000000000) (hr:StR w s a') (t:Tabs w) :
  Calls Tryz.prog 96 #[.pointer (some ⟨K,0,none⟩),.int .i64 ep,stV s a' cap'] w fun e w'=>KpPost (fun q=>(q=a∧(k.keep n ep s).1.s=k.s)∨∀ b o,q=some ⟨b,o,none⟩→w.heap.size≤b) S w K D n (k.keep n ep s) e w':=by
 have HH:=Lib.hid h
 have HR:=Lib.hid hr
 have TT:=Lib.hid t
 clear h hr t
 have KE:=Lib.hid (show k.keep n ep s=if ep<1∨1000000<ep then (k,1) else if stateFault s≠0 then (k,stateFault s) else k.lay n ep s from rfl)
 by_cases e1:ep<1∨1000000<ep
 ·have KX:=Lib.hid (KE.out.trans (if_pos e1))
  rcases e1 with e1 | e1
  ·go_enter Tryz.func96,Tryz.ntmps96
   go_wp2
   go_ret
   rw [KX.out]
   exact kp_same HH.out (bal w _) 1
  ·have e2:¬ ep<1:=by omega
   go_enter Tryz.func96,Tryz.ntmps96
   go_wp2
   go_ret
   rw [KX.out]
   exact kp_same HH.out (bal w _) 1
 have KE2:=Lib.hid (KE.out.trans (if_neg e1))
 have e2:¬ ep<1:=by omega
 have e3:¬ 1000000<ep:=by omega
 have EP:=Lib.hid (show 1≤ep∧ep≤1000000 from by omega)
 clear e1 KE
 go_enter Tryz.func96,Tryz.ntmps96
 go_wp2_with fail
 refine (check_any s a' cap' _ (HR.out.below (bal w _))).mono ?_
 rintro e w1 ⟨rfl,b1⟩
 have W1:=Lib.hid ((bal w _).trans (b1.mono (by simp)))
 have H1:=Lib.hid ((b1.block w.heap.size (by simp)).trans (heap_alloc_new w _))
 clear b1
 by_cases hf:stateFault s=0
 ·have KX:=Lib.hid (KE2.out.trans (if_neg (fun h=>h hf)))
  rw [hf,errV_nil]
  have HG:=Lib.hid ((good_iff _).1 hf)
  clear hf
  obtain ⟨v,w2,hrun,hown,b2⟩:=append_pairs s.regs a' cap' 33 w1 (by have:=HG.out.regs_len; omega) ((HR.out.below W1.out).rep)
  obtain ⟨a2,cap2,rfl,hpa,-⟩:=OwnP.shape hown
  have hblt:w.heap.size<w1.heap.size:=(Array.getElem?_eq_some_iff.1 H1.out).1
  have LO:=Lib.hid (show ∀ q o,a2=some ⟨q,o,none⟩→w1.heap.size≤q from fun q o e=>OwnP.blk hown q (by rw [e]; rfl))
  have W2:=Lib.hid (W1.out.trans (b2.mono W1.out.size))
  have H2:=Lib.hid ((b2.block w.heap.size hblt).trans H1.out)
  have S2:=Lib.hid (show StR w2 s a2 from ⟨by have:=HG.out.regs_len; unfold maxLen; omega,hpa⟩)
  have W3:=Lib.hid (W2.out.setCell (p:=⟨w.heap.size,1,none⟩) (Nat.le_refl _) (.slice a2 s.regs.length cap2))
  have S3:=Lib.hid (S2.out.keeps (kset (Keeps.refl (·=w.heap.size) w2) 1 (.slice a2 s.regs.length cap2)) (fun b o e _=>by have:=LO.out b o e; omega))
  have KR3:=Lib.hid (HH.out.below W3.out)
  have HX3:=Lib.hid (show ∀ b o,a2=some ⟨b,o,none⟩→s.regs≠[]→¬ S b∧b≠K from fun b o e _=>by
   have:=LO.out b o e
   have hK:=(Array.getElem?_eq_some_iff.1 HH.out.blk).1
   exact ⟨fun h=>by have:=HH.out.lt b h; omega,by omega⟩)
  have LAY:=Lib.hid (lay_any S _ K D n a a2 cap cap2 k ep s KR3.out ok hwl n6 h0 ⟨by omega,by omega,EP.out.1,EP.out.2,HG.out⟩ S3.out HX3.out (TT.out.on W3.out))
  have hc:=H1.out
  obtain ⟨⟨c0,c1,c2,c3,c4⟩,f0,f1,f2,f3,f4⟩:=cells5 H1.out
  obtain ⟨⟨d0,d1,d2,d3,d4⟩,g0,g1,g2,g3,g4⟩:=cells5 H2.out
  clear hc hpa hown b2
  go_wp2_with (first | (at_builtin; refine Lib.wpList_append_run _ rfl _ _ 33 33 rfl _ _ rfl rfl _ _ hrun ?_) | ((with_reducible refine LAY.out.mono ?_); rintro e w4 ⟨rfl,h4⟩))
  go_ret
  rw [KX.out]
  exact kp_under W3.out ⟨rfl,h4⟩ (fun q e=>by
   rcases e with e | e
   ·exact .inl e
   ·exact .inr (fun b o h=>by have:=LO.out b o (e▸h); have:=W1.out.size; omega))
 ·have KX:=Lib.hid (KE2.out.trans (if_pos hf))
  rw [errV_some hf]
  have HF:=Lib.hid (errV_some hf)
  obtain ⟨f,hff⟩:∃ f,f=stateFault s:=⟨_,rfl⟩
  rw [← hff] at KX HF ⊢
  clear hf hff
  go_wp2
  go_ret
  rw [KX.out,← HF.out]
  exact kp_same HH.out W1.out f
theorem kepoch_any (S:Nat→Prop) (w:World) (K D n:Nat) (a:Option Addr) (cap:Nat) (k:Kp) (h:KpR S w K D n a cap k) :
  Calls Tryz.prog 62 #[.pointer (some ⟨K,0,none⟩)] w fun e w'=>e=.returned (.int .i64 k.ep)∧w'=w:=by
 have hb:=h.blk
 have c2:w.cell? ⟨K,2,none⟩=some (.int .i64 k.ep):=by simp [World.cell?,hb]
 clear hb h
 go_enter Tryz.func62,Tryz.ntmps62
 go_wp2
 go_ret
 exact ⟨rfl,rfl⟩
theorem results_r1 {P:Program} {fn:Func} {p:Tmp} {ty:TypeId} (h:fn.results=#[.cell p ty]) (tmps:Array Value) (w:World) (g:Nat) (t:TypeId) (cs:Array Value) (d:TypeDesc)
  (hp:tmps.getD p undef=.pointer (some ⟨g,0,none⟩)) (hg:w.heap[g]?=some (.cells cs t (0,0)))
  (hu:P.underlying ty=some d) (hd:(match d with | .struct _ | .array _ _=>true | _=>false)=true) (hi:(P.info? ty).map (·.size)=some cs.size) :
  (results fn tmps).run P w=.ok (.agg cs) w:=by
 have hp':tmps[p]?.getD undef=.pointer (some ⟨g,0,none⟩):=by simpa using hp
 simp [results,h,hp',asAddr,run_loadVar_row w g t ty cs (0,0) d hg hu hd hi]
set_option maxRecDepth 100000 in
set_option maxHeartbeats 4000000 in
theorem kstate_any (S:Nat→Prop) (w:World) (K D n:Nat) (a:Option Addr) (cap:Nat) (k:Kp) (h:KpR S w K D n a cap k) (hl:k.s.regs.length≤1000) :
  Calls Tryz.prog 56 #[.pointer (some ⟨K,0,none⟩)] w fun e w'=>∃ a2 cap2,e=.returned (stV k.s a2 cap2)∧StR w' k.s a2∧Below w.heap.size w w'∧∀ b o,a2=some ⟨b,o,none⟩→w.heap.size≤b:=by
 have HH:=Lib.hid h
 have hb:=h.blk
 have hK:=(Array.getElem?_eq_some_iff.1 h.blk).1
 clear h
 obtain ⟨y3,y4,y5,y6,y7⟩:w.cell? ⟨K,3,none⟩=some (.int .i64 k.s.gen)∧w.cell? ⟨K,4,none⟩=some (.slice a k.s.regs.length cap)∧w.cell? ⟨K,5,none⟩=some (.int .i64 k.s.typ)∧w.cell? ⟨K,6,none⟩=some (.int .i64 k.s.holder)∧w.cell? ⟨K,7,none⟩=some (.bool k.s.stays):=by simp [World.cell?,hb]
 clear hb
 go_enter Tryz.func56,Tryz.ntmps56
 go_upto_region 2 with fail
 obtain ⟨w1,hw1⟩:∃ w1,(w.alloc (.cells #[.int .i64 0,.slice none 0 0,.int .i64 0,.int .i64 0,.bool false] 35)).alloc (.cells #[.int .i64 k.s.gen,.slice a k.s.regs.length cap,.int .i64 k.s.typ,.int .i64 k.s.holder,.bool k.s.stays] 35)=w1:=⟨_,rfl⟩
 rw [hw1]
 have B1:=Lib.hid (show Below w.heap.size w w1 from hw1▸(bal w _).trans ((bal _ _).mono (by simp)))
 have hz1:w1.heap.size=w.heap.size+2:=by rw [← hw1]; simp
 have R1:=Lib.hid (show w1.heap[w.heap.size]?=some (.cells #[.int .i64 0,.slice none 0 0,.int .i64 0,.int .i64 0,.bool false] 35 (0,0)) from hw1▸heap_alloc2_old w _ _)
 have N1:=Lib.hid (show w1.heap[w.heap.size+1]?=some (.cells #[.int .i64 k.s.gen,.slice a k.s.regs.length cap,.int .i64 k.s.typ,.int .i64 k.s.holder,.bool k.s.stays] 35 (0,0)) from hw1▸heap_alloc2_new w _ _)
 clear hw1
 obtain ⟨v,w2,hrun,hown,b2⟩:=append_pairs k.s.regs a cap 33 w1 hl ((HH.out.str.below B1.out).rep)
 obtain ⟨a2,cap2,rfl,hpa,-⟩:=OwnP.shape hown
 have LO:=Lib.hid (show ∀ q o,a2=some ⟨q,o,none⟩→w1.heap.size≤q from fun q o e=>OwnP.blk hown q (by rw [e]; rfl))
 have B2:=Lib.hid (B1.out.trans (b2.mono B1.out.size))
 have R2:=Lib.hid ((b2.block w.heap.size (by omega)).trans R1.out)
 have N2:=Lib.hid ((b2.block (w.heap.size+1) (by omega)).trans N1.out)
 have S2:=Lib.hid (show StR w2 k.s a2 from ⟨by unfold maxLen; omega,hpa⟩)
 obtain ⟨⟨c0,c1,c2,c3,c4⟩,f0,f1,f2,f3,f4⟩:=cells5 N1.out
 obtain ⟨⟨d0,d1,d2,d3,d4⟩,g0,g1,g2,g3,g4⟩:=cells5 N2.out
 obtain ⟨⟨r0,r1,r2,r3,r4⟩,t0,t1,t2,t3,t4⟩:=cells5 R2.out
 clear y3 y4 y5 y6 y7 hpa hown b2
 go_wp2_with (at_builtin; refine Lib.wpList_append_run _ rfl _ _ 33 33 rfl _ _ rfl rfl _ _ hrun ?_)
 have N3:=one_setCell (o:=1) N2.out (.slice a2 k.s.regs.length cap2)
 have R3:=(Below.heap_setCell w2 ⟨w.heap.size+1,1,none⟩ (.slice a2 k.s.regs.length cap2) w.heap.size (by show w.heap.size≠w.heap.size+1; omega)).trans R2.out
 refine bodyPost_ret (v:=stV k.s a2 cap2) (results_r1 Tryz.results56 _ _ w.heap.size 35 #[.int .i64 k.s.gen,.slice a2 k.s.regs.length cap2,.int .i64 k.s.typ,.int .i64 k.s.holder,.bool k.s.stays] _ rfl (five_at R3 _ _ _ _ _) state_row.1 rfl state_row.2) rfl ?_
 exact ⟨a2,cap2,rfl,(S2.out.keeps (kset (Keeps.refl (·=w.heap.size+1) w2) 1 (.slice a2 k.s.regs.length cap2)) (fun b o e _=>by have:=LO.out b o e; omega)).five (fun b o e=>by have:=LO.out b o e; omega) _ _ _ _ _,
  five_below (B2.out.setCell (p:=⟨w.heap.size+1,1,none⟩) (by show w.heap.size≤w.heap.size+1; omega) _) (Nat.le_refl _) _ _ _ _ _,fun b o e=>by have:=LO.out b o e; omega⟩
end Go.Proofs.YtajegiifabfcjaaGreatDoor
