/-
  KpPlain, Cel, Rp, Same, Own, DelPlain, Others, Keeps
-/
import Derived.Test.YtbkmdmmgalmmaaaGreatDoorQ01
import Derived.Test.YtbkmdmmgalmmaaaGreatDoorQ02
import Derived.Laws.StructEq
import Derived.Laws.Rows
import Derived.ChangeKeysEq
import Derived.Deep.MidRow
import Derived.WalkSpells
import Derived.Lib.LazyBuf
namespace Go.Proofs.YtbkmdmmgalmmaaaGreatDoor
open Go.RowKit Go.Lib
structure Kp where
 d:Dk
 num:Int
 ep:Int
 s:St
def kText (n e:Int) (s:St):Bs:=107 :: 32 :: (itoa n ++ 32 :: (itoa e ++ 32 :: (itoa (stText s).length ++ 32 :: stText s)))
def kA (n e:Int) (s:St):ByteArray:=bsB ((kText n e s).take 64)
def kB (n e:Int) (s:St):ByteArray:=bsB ((kText n e s).drop 64)
def full0:ByteArray:=fullB ⟨#[]⟩
structure KNum (n e:Int) (s:St):Prop where
 n0:0≤n
 n1:n≤1000000000000000
 e0:1≤e
 e1:e≤1000000
 g:Good s
theorem KNum.len {n e:Int} {s:St} (h:KNum n e s):(kText n e s).length≤100:=by
 have h1:=itoa_len 15 n h.n0 (by have:=h.n1; omega)
 have h2:=itoa_len 6 e (by have:=h.e0; omega) (by have:=h.e1; omega)
 have h3:=h.g.text_len
 have h4:=itoa_len 1 ((stText s).length:Int) (by omega) (by omega)
 unfold kText
 simp only [List.length_cons,List.length_append]
 omega
theorem KNum.kA_size {n e:Int} {s:St}:(kA n e s).size≤64:=by unfold kA; rw [bsB_size,List.length_take]; omega
theorem KNum.kB_size {n e:Int} {s:St} (h:KNum n e s):(kB n e s).size≤64:=by have:=h.len; unfold kB; rw [bsB_size,List.length_drop]; omega
theorem zerosB_eq (n:Nat):zerosB n=bsB (List.replicate n 0):=by
 apply ByteArray.ext
 simp [zerosB,bsB,strOfNums]
theorem fullB_bs {l:Bs}:fullB (bsB l)=bsB (l ++ List.replicate (64 - l.length) 0):=by
 unfold fullB
 rw [zerosB_eq,bsB_size,bsB_append]
theorem two_sectors (t:Bs) (h:t.length≤128):fullB (bsB (t.take 64)) ++ fullB (bsB (t.drop 64))=bsB (t ++ List.replicate (128 - t.length) 0):=by
 rw [fullB_bs,fullB_bs,bsB_append]
 congr 1
 rw [List.length_take,List.length_drop]
 by_cases h1:t.length≤64
 ·rw [List.take_of_length_le h1,List.drop_of_length_le h1,List.nil_append,List.append_assoc,List.replicate_append_replicate]
  congr 2
  omega
 ·rw [show 64 - min 64 t.length=0 by omega,List.replicate_zero,List.append_nil,← List.append_assoc,List.take_append_drop]
  congr 2
  omega
theorem split4_kText (n e:Int) (s:St) (z:Bs):splitK [32] 0 4 (kText n e s ++ z)=[[107],itoa n,itoa e,itoa (stText s).length,stText s ++ z]:=by
 have e1:kText n e s ++ z=[107] ++ 32 :: (itoa n ++ 32 :: (itoa e ++ 32 :: (itoa (stText s).length ++ 32 :: (stText s ++ z)))):=by simp [kText]
 rw [e1,splitK_cons 32 3 _ _ (by decide),splitK_cons 32 2 _ _ (itoa_blank _),splitK_cons 32 1 _ _ (itoa_blank _),splitK_cons 32 0 _ _ (itoa_blank _)]
 rfl
theorem index_cons_ne (c b:UInt8) (l:Bs) (h:c≠b):index (b :: l) [c]=-1∨1≤index (b :: l) [c]:=by
 rw [index]
 have:([c]:Bs).isPrefixOf (b :: l)=false:=by simp [List.isPrefixOf,h]
 rw [this]
 have:=index_ge l [c]
 simp only [Bool.false_eq_true,if_false]
 split
 ·exact .inl rfl
 ·rename_i h2
  right
  simp only [beq_iff_eq] at h2
  omega
theorem split_zero (k:Nat) (r:Bs):∃ a l,splitK [32] 0 k (0 :: r)=(0 :: a) :: l:=by
 cases k with
 | zero=>exact ⟨r,[],rfl⟩
 | succ k =>
  unfold splitK
  rcases index_cons_ne 32 0 r (by decide) with h | h
  ·rw [h]; exact ⟨r,[],rfl⟩
  ·rw [if_neg (by simp; omega)]
   obtain ⟨m,hm⟩:∃ m:Nat,(index (0 :: r) [32]).toNat=m+1:=⟨(index (0 :: r) [32]).toNat - 1,by omega⟩
   rw [hm]
   exact ⟨_,_,rfl⟩
structure Place (now:List ByteArray) (p:Nat) (n e:Int) (s:St):Prop where
 a:now.getD (2*p) ⟨#[]⟩=fullB (kA n e s)
 b:now.getD (2*p+1) ⟨#[]⟩=fullB (kB n e s)
 k:KNum n e s
def Other (now:List ByteArray) (q:Nat) (m:Int):Prop:=now.getD (2*q) ⟨#[]⟩=full0∨∃ n e s,n<m∧Place now q n e s
def par (n:Int):Nat:=(n % 2).toNat
theorem par_lt (n:Int):par n<2:=by unfold par; omega
theorem par_next (n:Int):par (n+1)=1 - par n:=by unfold par; omega
structure KD (n:Nat) (d:Dk) (num ep:Int) (s:St):Prop where
 ok:d.ok n
 n6:6≤n
 up:d.down=false
 wait:d.wait=[]
 same:d.kept=d.now
 p1:1≤num
 place:Place d.now (par num) num ep s
 other:Other d.now (1 - par num) num
theorem getD_set_ne {l:List ByteArray} {i j:Nat} (h:i≠j) (x:ByteArray):(l.set i x).getD j ⟨#[]⟩=l.getD j ⟨#[]⟩:=by
 simp [List.getD_eq_getElem?_getD,List.getElem?_set_ne h]
theorem getD_set_eq {l:List ByteArray} {i:Nat} (h:i<l.length) (x:ByteArray):(l.set i x).getD i ⟨#[]⟩=x:=by
 simp [List.getD_eq_getElem?_getD,h]
theorem Place.set {now:List ByteArray} {p:Nat} {n e:Int} {s:St} (h:Place now p n e s) {i:Nat} (h1:i≠2*p) (h2:i≠2*p+1) (x:ByteArray):Place (now.set i x) p n e s :=
 ⟨by rw [getD_set_ne h1,h.a],by rw [getD_set_ne h2,h.b],h.k⟩
def layD (n:Nat) (d:Dk) (a:Nat) (A B:ByteArray):Dk × Bool :=
 let d1:=d.write n ((2*a:Nat):Int) ⟨#[]⟩
 if d.steps=false then (d1,false) else
 let d2:=d1.flush
 if d1.steps=false then (d2,false) else
 let d3:=d2.write n ((2*a+1:Nat):Int) B
 if d2.steps=false then (d3,false) else
 let d4:=d3.flush
 if d3.steps=false then (d4,false) else
 let d5:=d4.write n ((2*a:Nat):Int) A
 if d4.steps=false then (d5,false) else
 let d6:=d5.flush
 if d5.steps=false then (d6,false) else (d6,true)
def Kp.lay (n:Nat) (k:Kp) (ep:Int) (s:St):Kp × Int :=
 let r:=layD n k.d (par (k.num+1)) (kA (k.num+1) ep s) (kB (k.num+1) ep s)
 if r.2 then (⟨r.1,k.num+1,ep,s⟩,0) else ({ k with d:=r.1 },10)
def Kp.keep (n:Nat) (k:Kp) (ep:Int) (s:St):Kp × Int :=
 if ep<1∨1000000<ep then (k,1) else if stateFault s≠0 then (k,stateFault s) else k.lay n ep s
theorem Dk.write_steps {n:Nat} {d:Dk} {p:Nat} {s:ByteArray} (hp:p<n) (hs:s.size≤64) (h:d.steps=true):d.write n (p:Int) s={ d.step with now:=d.now.set p (fullB s),wait:=d.wait ++ [(p,fullB s)] }:=by
 unfold Dk.write
 rw [if_neg (by omega),if_pos h]
 rfl
theorem Dk.write_stops {n:Nat} {d:Dk} {p:Nat} {s:ByteArray} (hp:p<n) (hs:s.size≤64) (h:d.steps=false):d.write n (p:Int) s=d.step:=by
 unfold Dk.write
 rw [if_neg (by omega),if_neg (by simp [h])]
theorem Dk.flush_steps {d:Dk} (h:d.steps=true):d.flush={ d.step with kept:=d.now,wait:=[] }:=by unfold Dk.flush; rw [if_pos h]
theorem Dk.flush_stops {d:Dk} (h:d.steps=false):d.flush=d.step:=by unfold Dk.flush; rw [if_neg (by simp [h])]
theorem Dk.step_up {d:Dk} (h:d.steps=true):d.step.down=false:=by
 unfold Dk.steps at h
 simp only [Bool.and_eq_true,Bool.not_eq_true',decide_eq_true_eq] at h
 unfold Dk.step
 rw [h.1]
 simp [h.2]
theorem Dk.flush_ok' {n:Nat} {d:Dk} (h:d.ok n):d.flush.ok n:=by
 have k:=Dk.step_ok h
 unfold Dk.flush
 split
 ·exact ⟨k.n40,h.nl,by simpa [(Dk.step_lists d).2.1] using h.nl,(fun _ hr=>by cases hr),k.fu,k.fm⟩
 ·exact k
theorem restart_of {keep:Int} {d:Dk} (h:d.wait=[]):d.restart keep=⟨d.kept,d.kept,[],-1,false⟩:=by
 unfold Dk.restart
 rw [h]
 rfl
theorem restart_one {keep:Int} {d:Dk} {i:Nat} {x:ByteArray} (h:d.wait=[(i,x)]):d.restart keep=⟨d.kept,d.kept,[],-1,false⟩∨d.restart keep=⟨d.kept.set i x,d.kept.set i x,[],-1,false⟩:=by
 unfold Dk.restart
 rw [h]
 simp only [List.length_singleton,Dk.restTo,h]
 split
 ·right; simp
 ·left; rfl
def Fell (n:Nat) (d:Dk) (num ep:Int) (s:St) (ep':Int) (s':St):Prop :=
 d.ok n∧∀ keep,KD n (d.restart keep) num ep s∨KD n (d.restart keep) (num+1) ep' s'
section
variable {n:Nat} {d:Dk} {num ep:Int} {s:St}
theorem KD.kd_of (h:KD n d num ep s) {l:List ByteArray} (hl:l.length=n) (hp:Place l (par num) num ep s) (ho:Other l (1 - par num) num) {f:Int} (hf:-1≤f∧f≤9223372036854775807):KD n ⟨l,l,[],f,false⟩ num ep s :=
 ⟨⟨h.ok.n40,hl,hl,(fun _ hr=>by cases hr),hf.1,hf.2⟩,h.n6,rfl,rfl,rfl,h.p1,hp,ho⟩
theorem lay_law (h:KD n d num ep s) (hn:num<1000000000000000) {ep':Int} {s':St} (he:1≤ep'∧ep'≤1000000) (hs:Good s') :
  let r:=layD n d (par (num+1)) (kA (num+1) ep' s') (kB (num+1) ep' s')
  r.1.ok n∧(r.2=true→KD n r.1 (num+1) ep' s')∧(r.2=false→Fell n r.1 num ep s ep' s'):=by
 have hk:KNum (num+1) ep' s':=⟨by have:=h.p1; omega,by omega,he.1,he.2,hs⟩
 have hn6:=h.n6
 have hp2:=par_lt num
 have hpn:=par_next num
 obtain ⟨a,ha⟩:∃ a,a=par (num+1):=⟨_,rfl⟩
 have ha2:a=1 - par num:=by omega
 have hA:(kA (num+1) ep' s').size≤64:=KNum.kA_size
 have hB:=hk.kB_size
 have hE:(⟨#[]⟩:ByteArray).size≤64:=by decide
 obtain ⟨A,hAe⟩:∃ A,A=kA (num+1) ep' s':=⟨_,rfl⟩
 obtain ⟨B,hBe⟩:∃ B,B=kB (num+1) ep' s':=⟨_,rfl⟩
 rw [← ha,← hAe,← hBe]
 rw [← hAe] at hA
 rw [← hBe] at hB
 have nl:=h.ok.nl
 have l2a:2*a<n:=by omega
 have l2b:2*a+1<n:=by omega
 have n1:2*a≠2*par num:=by omega
 have n2:2*a≠2*par num+1:=by omega
 have n3:2*a+1≠2*par num:=by omega
 have n4:2*a+1≠2*par num+1:=by omega
 obtain ⟨N,hN⟩:∃ N,N=d.now:=⟨_,rfl⟩
 obtain ⟨N1,hN1⟩:∃ N1,N1=N.set (2*a) full0:=⟨_,rfl⟩
 obtain ⟨N2,hN2⟩:∃ N2,N2=N1.set (2*a+1) (fullB B):=⟨_,rfl⟩
 obtain ⟨N3,hN3⟩:∃ N3,N3=N2.set (2*a) (fullB A):=⟨_,rfl⟩
 have p0:Place N (par num) num ep s:=hN▸h.place
 have p1:Place N1 (par num) num ep s:=hN1▸p0.set n1 n2 _
 have p2:Place N2 (par num) num ep s:=hN2▸p1.set n3 n4 _
 have p3:Place N3 (par num) num ep s:=hN3▸p2.set n1 n2 _
 have ln:N.length=n:=hN▸nl
 have ln1:N1.length=n:=by rw [hN1,List.length_set,ln]
 have ln2:N2.length=n:=by rw [hN2,List.length_set,ln1]
 have ln3:N3.length=n:=by rw [hN3,List.length_set,ln2]
 have o0:Other N (1 - par num) num:=hN▸h.other
 have o1:Other N1 (1 - par num) num:=.inl (by rw [← ha2,hN1,getD_set_eq (by omega)])
 have o2:Other N2 (1 - par num) num:=.inl (by rw [← ha2,hN2,getD_set_ne (by omega),hN1,getD_set_eq (by omega)])
 have q3:Place N3 (par (num+1)) (num+1) ep' s':=by
  rw [← ha]
  refine ⟨?_,?_,hk⟩
  ·rw [hN3,getD_set_eq (by omega),hAe]
  ·rw [hN3,getD_set_ne (by omega),hN2,getD_set_eq (by omega),hBe]
 have o3:Other N3 (1 - par (num+1)) (num+1):=.inr ⟨num,ep,s,by omega,by rw [hpn,show 1 - (1 - par num)=par num by omega]; exact p3⟩
 have ok:=h.ok
 have w0:=h.wait
 have k0:d.kept=N:=h.same.trans hN.symm
 have fell:∀ {x:Dk},x.ok n→(∀ keep,KD n (x.restart keep) num ep s∨KD n (x.restart keep) (num+1) ep' s')→Fell n x num ep s ep' s':=fun a b=>⟨a,b⟩
 have mk:∀ {l:List ByteArray},l.length=n→Place l (par num) num ep s→Other l (1 - par num) num→KD n ⟨l,l,[],-1,false⟩ num ep s:=fun a b c=>h.kd_of a b c (by omega)
 unfold layD
 dsimp only
 have ok1:=Dk.write_ok ok ((2*a:Nat):Int) ⟨#[]⟩
 by_cases s0:d.steps=false
 ·rw [if_pos s0]
  refine ⟨ok1,fun e=>(by cases e),fun _=>fell ok1 fun keep=>.inl ?_⟩
  rw [Dk.write_stops l2a hE s0]
  have hl:=Dk.step_lists d
  rw [restart_of (hl.2.2.trans w0),hl.1,k0]
  exact mk ln p0 o0
 rw [if_neg s0]
 have s0':d.steps=true:=by simpa using s0
 obtain ⟨d1,hd1⟩:∃ d1,d1=d.write n ((2*a:Nat):Int) ⟨#[]⟩:=⟨_,rfl⟩
 rw [← hd1] at ok1 ⊢
 have f1:d1.now=N1∧d1.kept=N∧d1.wait=[(2*a,full0)]:=by
  rw [hd1,Dk.write_steps l2a hE s0']
  refine ⟨by rw [hN1,hN]; rfl,by show d.step.kept=_; rw [(Dk.step_lists d).1,k0],by show d.wait ++ _=_; rw [w0]; rfl⟩
 clear hd1
 have ok2:=Dk.flush_ok' ok1
 by_cases s1:d1.steps=false
 ·rw [if_pos s1]
  refine ⟨ok2,fun e=>(by cases e),fun _=>fell ok2 fun keep=>.inl ?_⟩
  have hl:=Dk.step_lists d1
  rw [Dk.flush_stops s1]
  rcases restart_one (keep:=keep) (hl.2.2.trans f1.2.2) with e | e
  ·rw [e,hl.1,f1.2.1]; exact mk ln p0 o0
  ·rw [e,hl.1,f1.2.1,← hN1]; exact mk ln1 p1 o1
 rw [if_neg s1]
 have s1':d1.steps=true:=by simpa using s1
 obtain ⟨d2,hd2⟩:∃ d2,d2=d1.flush:=⟨_,rfl⟩
 rw [← hd2] at ok2 ⊢
 have f2:d2.now=N1∧d2.kept=N1∧d2.wait=[]:=by
  rw [hd2,Dk.flush_steps s1']
  exact ⟨by show d1.step.now=_; rw [(Dk.step_lists d1).2.1,f1.1],f1.1,rfl⟩
 clear hd2 f1
 have ok3:=Dk.write_ok ok2 ((2*a+1:Nat):Int) B
 by_cases s2:d2.steps=false
 ·rw [if_pos s2]
  refine ⟨ok3,fun e=>(by cases e),fun _=>fell ok3 fun keep=>.inl ?_⟩
  rw [Dk.write_stops l2b hB s2]
  have hl:=Dk.step_lists d2
  rw [restart_of (hl.2.2.trans f2.2.2),hl.1,f2.2.1]
  exact mk ln1 p1 o1
 rw [if_neg s2]
 have s2':d2.steps=true:=by simpa using s2
 obtain ⟨d3,hd3⟩:∃ d3,d3=d2.write n ((2*a+1:Nat):Int) B:=⟨_,rfl⟩
 rw [← hd3] at ok3 ⊢
 have f3:d3.now=N2∧d3.kept=N1∧d3.wait=[(2*a+1,fullB B)]:=by
  rw [hd3,Dk.write_steps l2b hB s2']
  refine ⟨by rw [hN2,← f2.1],by show d2.step.kept=_; rw [(Dk.step_lists d2).1,f2.2.1],by show d2.wait ++ _=_; rw [f2.2.2]; rfl⟩
 clear hd3 f2
 have ok4:=Dk.flush_ok' ok3
 by_cases s3:d3.steps=false
 ·rw [if_pos s3]
  refine ⟨ok4,fun e=>(by cases e),fun _=>fell ok4 fun keep=>.inl ?_⟩
  have hl:=Dk.step_lists d3
  rw [Dk.flush_stops s3]
  rcases restart_one (keep:=keep) (hl.2.2.trans f3.2.2) with e | e
  ·rw [e,hl.1,f3.2.1]; exact mk ln1 p1 o1
  ·rw [e,hl.1,f3.2.1,← hN2]; exact mk ln2 p2 o2
 rw [if_neg s3]
 have s3':d3.steps=true:=by simpa using s3
 obtain ⟨d4,hd4⟩:∃ d4,d4=d3.flush:=⟨_,rfl⟩
 rw [← hd4] at ok4 ⊢
 have f4:d4.now=N2∧d4.kept=N2∧d4.wait=[]:=by
  rw [hd4,Dk.flush_steps s3']
  exact ⟨by show d3.step.now=_; rw [(Dk.step_lists d3).2.1,f3.1],f3.1,rfl⟩
 clear hd4 f3
 have ok5:=Dk.write_ok ok4 ((2*a:Nat):Int) A
 by_cases s4:d4.steps=false
 ·rw [if_pos s4]
  refine ⟨ok5,fun e=>(by cases e),fun _=>fell ok5 fun keep=>.inl ?_⟩
  rw [Dk.write_stops l2a hA s4]
  have hl:=Dk.step_lists d4
  rw [restart_of (hl.2.2.trans f4.2.2),hl.1,f4.2.1]
  exact mk ln2 p2 o2
 rw [if_neg s4]
 have s4':d4.steps=true:=by simpa using s4
 obtain ⟨d5,hd5⟩:∃ d5,d5=d4.write n ((2*a:Nat):Int) A:=⟨_,rfl⟩
 rw [← hd5] at ok5 ⊢
 have f5:d5.now=N3∧d5.kept=N2∧d5.wait=[(2*a,fullB A)]:=by
  rw [hd5,Dk.write_steps l2a hA s4']
  refine ⟨by rw [hN3,← f4.1],by show d4.step.kept=_; rw [(Dk.step_lists d4).1,f4.2.1],by show d4.wait ++ _=_; rw [f4.2.2]; rfl⟩
 clear hd5 f4
 have ok6:=Dk.flush_ok' ok5
 have new:∀ {f:Int},-1≤f∧f≤9223372036854775807→KD n ⟨N3,N3,[],f,false⟩ (num+1) ep' s':=fun {f} hf =>
  ⟨⟨ok.n40,ln3,ln3,(fun _ hr=>by cases hr),hf.1,hf.2⟩,hn6,rfl,rfl,rfl,by have:=h.p1; omega,q3,o3⟩
 by_cases s5:d5.steps=false
 ·rw [if_pos s5]
  refine ⟨ok6,fun e=>(by cases e),fun _=>fell ok6 fun keep=>?_⟩
  have hl:=Dk.step_lists d5
  rw [Dk.flush_stops s5]
  rcases restart_one (keep:=keep) (hl.2.2.trans f5.2.2) with e | e
  ·left; rw [e,hl.1,f5.2.1]; exact mk ln2 p2 o2
  ·right; rw [e,hl.1,f5.2.1,← hN3]; exact new (by omega)
 rw [if_neg s5]
 have s5':d5.steps=true:=by simpa using s5
 refine ⟨ok6,fun _=>?_,fun e=>(by cases e)⟩
 have e:d5.flush=⟨N3,N3,[],d5.step.fuse,false⟩:=by
  rw [Dk.flush_steps s5',← f5.1,← Dk.step_up s5',← (Dk.step_lists d5).2.1]
 rw [e]
 exact new ⟨(Dk.step_ok ok5).fu,(Dk.step_ok ok5).fm⟩
end
theorem Dk.step_fuse {d:Dk} (h:d.fuse=-1):d.step.fuse=-1:=by
 unfold Dk.step
 split
 ·exact h
 ·split
  ·rfl
  ·dsimp only; rw [if_neg (by omega)]
theorem Dk.write_fuse {n:Nat} {d:Dk} (h:d.fuse=-1) (p:Int) (s:ByteArray):(d.write n p s).fuse=-1:=by
 unfold Dk.write
 split
 ·exact h
 ·split
  ·exact Dk.step_fuse h
  ·exact Dk.step_fuse h
theorem Dk.flush_fuse {d:Dk} (h:d.fuse=-1):d.flush.fuse=-1:=by
 unfold Dk.flush
 split
 ·exact Dk.step_fuse h
 ·exact Dk.step_fuse h
theorem Dk.steps_of {d:Dk} (h:d.fuse=-1) (hd:d.down=false):d.steps=true:=by unfold Dk.steps; rw [h,hd]; rfl
theorem Dk.step_down {d:Dk} (h:d.fuse=-1) (hd:d.down=false):d.step.down=false:=Dk.step_up (Dk.steps_of h hd)
theorem Dk.write_down {n:Nat} {d:Dk} (h:d.fuse=-1) (hd:d.down=false) (p:Int) (s:ByteArray):(d.write n p s).down=false:=by
 unfold Dk.write
 split
 ·exact hd
 ·split
  ·exact Dk.step_down h hd
  ·exact Dk.step_down h hd
theorem Dk.flush_down {d:Dk} (h:d.fuse=-1) (hd:d.down=false):d.flush.down=false:=by
 unfold Dk.flush
 split
 ·exact Dk.step_down h hd
 ·exact Dk.step_down h hd
theorem layD_live {n:Nat} {d:Dk} (h:d.fuse=-1) (hd:d.down=false) (a:Nat) (A B:ByteArray):(layD n d a A B).2=true∧(layD n d a A B).1.fuse=-1:=by
 have st:∀ {x:Dk},x.fuse=-1∧x.down=false→¬ (x.steps=false):=fun hx e=>by rw [Dk.steps_of hx.1 hx.2] at e; cases e
 have w:∀ {x:Dk} (p:Int) (s:ByteArray),x.fuse=-1∧x.down=false→(x.write n p s).fuse=-1∧(x.write n p s).down=false:=fun p s hx=>⟨Dk.write_fuse hx.1 p s,Dk.write_down hx.1 hx.2 p s⟩
 have f:∀ {x:Dk},x.fuse=-1∧x.down=false→x.flush.fuse=-1∧x.flush.down=false:=fun hx=>⟨Dk.flush_fuse hx.1,Dk.flush_down hx.1 hx.2⟩
 have h0:d.fuse=-1∧d.down=false:=⟨h,hd⟩
 unfold layD
 dsimp only
 rw [if_neg (st h0),if_neg (st (w _ _ h0)),if_neg (st (f (w _ _ h0))),if_neg (st (w _ _ (f (w _ _ h0)))),if_neg (st (f (w _ _ (f (w _ _ h0))))),if_neg (st (w _ _ (f (w _ _ (f (w _ _ h0))))))]
 exact ⟨rfl,(f (w _ _ (f (w _ _ (f (w _ _ h0)))))).1⟩
end Go.Proofs.YtbkmdmmgalmmaaaGreatDoor

namespace Go.Proofs.YtbkmdmmgalmmaaaGreatDoor
open Go.RowKit
structure Cel where
 e:Int
 n:Int
 d:ByteArray
deriving DecidableEq
abbrev Cel.v (c:Cel):Value:=.agg #[.int .i64 c.e,.int .i64 c.n,.string c.d]
def Cel.vs (c:Cel):List Value:=[.int .i64 c.e,.int .i64 c.n,.string c.d]
def Cel.zero:Cel:=⟨0,0,ByteArray.empty⟩
def newerB (a b:Cel):Bool:=decide (b.e<a.e∨(a.e=b.e∧b.n<a.n))
def flat (l:List Cel):List Value:=l.flatMap Cel.vs
theorem flat_length (l:List Cel):(flat l).length=l.length*3:=by
 induction l with
 | nil=>rfl
 | cons c l ih=>simp [flat,Cel.vs] at ih ⊢; omega
theorem flat_at:∀ (l:List Cel) (k:Nat) (h:k<l.length),(flat l)[k*3]?=some (.int .i64 l[k].e)∧(flat l)[k*3+1]?=some (.int .i64 l[k].n)∧(flat l)[k*3+2]?=some (.string l[k].d)
 | c :: l,0,_=>by simp [flat,Cel.vs]
 | c :: l,k+1,h=>by
  have:=flat_at l k (by simpa using h)
  have e:flat (c :: l)=.int .i64 c.e :: .int .i64 c.n :: .string c.d :: flat l:=rfl
  rw [e,show (k+1)*3=k*3+1+1+1 from by omega]
  simpa using this
theorem flat_one (l:List Cel):∀ v∈flat l,v.oneCell'=true:=by
 intro v hv
 simp only [flat,List.mem_flatMap,Cel.vs,List.mem_cons,List.mem_nil_iff,or_false] at hv
 obtain ⟨r,_,h | h | h⟩:=hv <;> subst h <;> rfl
theorem flat_set:∀ (l:List Cel) (k:Nat) (c:Cel),k<l.length→(((flat l).set (k*3) (.int .i64 c.e)).set (k*3+1) (.int .i64 c.n)).set (k*3+2) (.string c.d)=flat (l.set k c)
 | x :: l,0,c,_=>by simp [flat,Cel.vs]
 | x :: l,k+1,c,h=>by
  have:=flat_set l k c (by simpa using h)
  have e:flat (x :: l)=.int .i64 x.e :: .int .i64 x.n :: .string x.d :: flat l:=rfl
  have e2:flat ((x :: l).set (k+1) c)=.int .i64 x.e :: .int .i64 x.n :: .string x.d :: flat (l.set k c):=rfl
  rw [e,e2,show (k+1)*3=k*3+1+1+1 from by omega,← this]
  rfl
theorem fields_cell:Tryz.prog.underlying 38=some (.struct (Tryz.prog.fieldsOf 38))∧Tryz.prog.stoodInHeld 38=false:=by
 constructor <;> kernel_rfl
theorem fields_cell_list : ((Tryz.prog.fieldsOf 38).toList.map fun f => (f.name, f.type, f.offset)) = [("Epoch", 3, 0), ("Number", 3, 1), ("Data", 9, 2)] := by kernel_rfl
theorem plain_int:Tryz.prog.plainKey 3=true∧Tryz.prog.plainKey 9=true:=by constructor <;> kernel_rfl
theorem eq_fields (d : Nat) (xs ys : Array Value) (w : World) : ∀ (fs : List Field), (∀ f ∈ fs, f.name ≠ "_") → ∀ (b : Field → Bool),
  (∀ f∈fs,∃ x y,(part f.type xs f.offset).run Tryz.prog w=.ok x w∧(part f.type ys f.offset).run Tryz.prog w=.ok y w∧(Op.equalIn d f.type x y).run Tryz.prog w=.ok (b f) w) →
  (Op.eqFields d xs ys fs).run Tryz.prog w=.ok (fs.all b) w
 | [],_,b,_=>by simp [Op.eqFields]
 | f :: fs,hn,b,h=>by
  obtain ⟨x,y,h1,h2,h3⟩:=h f (by simp)
  have ih:=eq_fields d xs ys w fs (fun g hg=>hn g (by simp [hg])) b (fun g hg=>h g (by simp [hg]))
  unfold Op.eqFields
  rw [if_pos (hn f (by simp))]
  simp only [Sem.run_bind,h1,h2,h3,Result.andThen_ok,Sem.run_ite]
  cases hb:b f
  ·simp [hb]
  ·simp [hb,ih]
theorem eq_struct (d:Nat) (T:TypeId) (xs ys:Array Value) (w:World) (ht:Tryz.prog.underlying T=some (.struct (Tryz.prog.fieldsOf T))) (hp:Tryz.prog.stoodInHeld T=false)
  (spec:List (String × TypeId × Nat)) (hs:((Tryz.prog.fieldsOf T).toList.map fun f=>(f.name,f.type,f.offset))=spec) (b:Nat→Bool)
  (h : ∀ s ∈ spec, s.1 ≠ "_" ∧ ∃ x y, (part s.2.1 xs s.2.2).run Tryz.prog w = .ok x w ∧ (part s.2.1 ys s.2.2).run Tryz.prog w = .ok y w ∧ (Op.equalIn d s.2.1 x y).run Tryz.prog w = .ok (b s.2.2) w) :
  (Op.equalIn (d+1) T (.agg xs) (.agg ys)).run Tryz.prog w=.ok (spec.all fun s=>b s.2.2) w:=by
 rw [run_equalIn_struct w d T xs ys ht hp,eq_fields d xs ys w _ ?_ (fun f=>b f.offset) ?_]
 ·rw [← hs,List.all_map]; rfl
 ·intro f hf
  exact (h (f.name,f.type,f.offset) (hs▸List.mem_map_of_mem (f:=fun f:Field=>(f.name,f.type,f.offset)) hf)).1
 ·intro f hf
  exact (h (f.name,f.type,f.offset) (hs▸List.mem_map_of_mem (f:=fun f:Field=>(f.name,f.type,f.offset)) hf)).2
theorem run_eq_all (d:Nat) (T:TypeId) (n:Nat) (xs ys:Array Value) (w:World) (f g:Nat→Value) (b:Nat→Bool):∀ (l:List Nat),
  (∀ i∈l,(part T xs (i*n)).run Tryz.prog w=.ok (f i) w∧(part T ys (i*n)).run Tryz.prog w=.ok (g i) w∧(Op.equalIn d T (f i) (g i)).run Tryz.prog w=.ok (b i) w) →
  ((forIn l ((none,()):Option Bool × Unit) fun i _r=>do
    let x ← part T xs (i*n)
    let y ← part T ys (i*n)
    let q ← Op.equalIn d T x y
    if (!q)=true then pure (ForInStep.done (some false,())) else pure (ForInStep.yield (none,()))).run Tryz.prog w)=.ok (if l.all b then (none,()) else (some false,())) w
 | [],_=>by simp
 | i :: l,h=>by
  obtain ⟨h1,h2,h3⟩:=h i (by simp)
  have ih:=run_eq_all d T n xs ys w f g b l (fun j hj=>h j (by simp [hj]))
  rw [List.forIn_cons]
  simp only [Sem.run_bind,h1,h2,h3,Result.andThen_ok,Sem.run_ite]
  cases hb:b i
  ·simp [hb]
  ·simp only [Bool.not_true,Bool.false_eq_true,if_false,Sem.run_pure,Result.andThen_ok,List.all_cons,hb,Bool.true_and]
   exact ih
theorem eq_array (d:Nat) (T E:TypeId) (len n:Nat) (xs ys:Array Value) (w:World) (ht:Tryz.prog.underlying T=some (.array len E)) (hn:(Tryz.prog.info? E).map (·.size)=some n) (f g:Nat→Value) (b:Nat→Bool)
  (h:∀ i<len,(part E xs (i*n)).run Tryz.prog w=.ok (f i) w∧(part E ys (i*n)).run Tryz.prog w=.ok (g i) w∧(Op.equalIn d E (f i) (g i)).run Tryz.prog w=.ok (b i) w) :
  (Op.equalIn (d+1) T (.agg xs) (.agg ys)).run Tryz.prog w=.ok ((List.range len).all b) w:=by
 have hs:(sizeOf E).run Tryz.prog w=.ok n w:=by
  cases hq:Tryz.prog.info? E with
  | none=>simp [hq] at hn
  | some i=>simp [hq] at hn; simp [sizeOf,typeInfo,hq,hn]
 have:=run_eq_all d E n xs ys w f g b (List.range len) (fun i hi=>h i (by simpa using hi))
 simp only [Op.equalIn,Sem.run_bind,run_underlying ht,Result.andThen_ok,hs]
 simp only [Std.Legacy.Range.forIn_eq_forIn_range',Std.Legacy.Range.size,Nat.sub_zero,Nat.add_one_sub_one,Nat.div_one]
 simp only [← List.range_eq_range',this,Result.andThen_ok]
 cases (List.range len).all b <;> simp
end Go.Proofs.YtbkmdmmgalmmaaaGreatDoor

namespace Go.Proofs.YtbkmdmmgalmmaaaGreatDoor
open Go.RowKit
theorem under_int:Tryz.prog.underlying 3=some (.int .i64)∧Tryz.prog.underlying 9=some .string:=by constructor <;> kernel_rfl
theorem ba_beq (a b:ByteArray):(a.toList == b.toList)=decide (a=b):=by
 rw [Bool.eq_iff_iff,beq_iff_eq,decide_eq_true_eq,ByteArray.toList_eq,ByteArray.toList_eq]
 constructor
 ·intro h; cases a with | mk a=>cases b with | mk b=>simp at h; rw [h]
 ·rintro rfl; rfl
theorem eq_cell (d:Nat) (a b:Cel) (w:World):(Op.equalIn (d+2) 38 a.v b.v).run Tryz.prog w=.ok (decide (a=b)) w:=by
 have:=eq_struct (d+1) 38 #[.int .i64 a.e,.int .i64 a.n,.string a.d] #[.int .i64 b.e,.int .i64 b.n,.string b.d] w fields_cell.1 fields_cell.2 _ fields_cell_list
  (fun o=>if o=0 then a.e == b.e else if o=1 then a.n == b.n else a.d.toList == b.d.toList) ?_
 ·rw [this]
  refine congrArg (fun b=>Result.ok b w) ?_
  rw [Bool.eq_iff_iff]
  simp [ba_beq]
  constructor
  ·rintro ⟨h1,h2,h3⟩; cases a; cases b; simp_all
  ·rintro rfl; exact ⟨rfl,rfl,rfl⟩
 ·intro s hs
  simp only [List.mem_cons,List.mem_nil_iff,or_false] at hs
  rcases hs with rfl | rfl | rfl
  ·exact ⟨by decide,_,_,run_part_plain w plain_int.1 rfl,run_part_plain w plain_int.1 rfl,run_equalIn_int w d _ _ _ _ _ under_int.1⟩
  ·exact ⟨by decide,_,_,run_part_plain w plain_int.1 rfl,run_part_plain w plain_int.1 rfl,run_equalIn_int w d _ _ _ _ _ under_int.1⟩
  ·exact ⟨by decide,_,_,run_part_plain w plain_int.2 rfl,run_part_plain w plain_int.2 rfl,run_equalIn_string w d _ _ _ under_int.2⟩
theorem part_agg {P:Program} {T:TypeId} {cs:Array Value} {off n:Nat} {d:TypeDesc} (w:World) (hu:P.underlying T=some d) (hd:d.isRow=true) (hi:(P.info? T).map (·.size)=some n) :
  (part T cs off).run P w=.ok (.agg (cs.extract off (off+n))) w:=by
 have hagg:(isAgg T).run P w=.ok true w:=by
  unfold isAgg
  rw [Sem.run_bind,run_underlying hu w]
  cases d <;> simp_all
 cases hq:P.info? T with
 | none=>simp [hq] at hi
 | some i =>
  have hs:i.size=n:=by simpa [hq] using hi
  unfold part
  simp [Sem.run_bind,hagg,sizeOf,typeInfo,hq,hs]
theorem flat_extract:∀ (l:List Cel) (i:Nat) (h:i<l.length),((flat l).drop (i*3)).take 3=l[i].vs
 | c :: l,0,_=>by simp [flat,Cel.vs]
 | c :: l,i+1,h=>by
  have:=flat_extract l i (by simpa using h)
  have e:flat (c :: l)=.int .i64 c.e :: .int .i64 c.n :: .string c.d :: flat l:=rfl
  rw [e,show (i+1)*3=i*3+1+1+1 from by omega]
  simpa using this
theorem flat_part {l:List Cel} {i:Nat} (h:i<l.length):(flat l).toArray.extract (i*3) (i*3+3)=#[.int .i64 l[i].e,.int .i64 l[i].n,.string l[i].d]:=by
 apply Array.toList_inj.1
 simp only [Array.toList_extract,List.extract_eq_take_drop]
 rw [show i*3+3 - i*3=3 from by omega]
 exact flat_extract l i h
theorem cell_row:Tryz.prog.underlying 38=some (.struct (Tryz.prog.fieldsOf 38))∧(Tryz.prog.info? 38).map (·.size)=some 3:=by constructor <;> kernel_rfl
theorem cells_row:Tryz.prog.underlying 39=some (.array 8 38)∧(Tryz.prog.info? 39).map (·.size)=some 24:=by constructor <;> kernel_rfl
theorem rp_row:Tryz.prog.underlying 41=some (.struct (Tryz.prog.fieldsOf 41))∧(Tryz.prog.info? 41).map (·.size)=some 25∧Tryz.prog.stoodInHeld 41=false ∧
  ((Tryz.prog.fieldsOf 41).toList.map fun f => (f.name, f.type, f.offset)) = [("Floor", 3, 0), ("Cells", 39, 1)] := by
 refine ⟨?_,?_,?_,?_⟩ <;> kernel_rfl
theorem list_all_eq {l m:List Cel} (hl:l.length=8) (hm:m.length=8):((List.range 8).all fun i=>decide (l[i]?=m[i]?))=decide (l=m):=by
 rw [Bool.eq_iff_iff,List.all_eq_true,decide_eq_true_eq]
 constructor
 ·intro h
  apply List.ext_getElem?
  intro i
  by_cases hi:i<8
  ·simpa using h i (List.mem_range.2 hi)
  ·rw [List.getElem?_eq_none (by omega),List.getElem?_eq_none (by omega)]
 ·rintro rfl i _; simp
theorem eq_cells (d:Nat) (l m:List Cel) (hl:l.length=8) (hm:m.length=8) (w:World) :
  (Op.equalIn (d+3) 39 (.agg (flat l).toArray) (.agg (flat m).toArray)).run Tryz.prog w=.ok (decide (l=m)) w:=by
 rw [← list_all_eq hl hm]
 refine eq_array (d+2) 39 38 8 3 _ _ w cells_row.1 cell_row.2 (fun i=>if h:i<l.length then l[i].v else undef) (fun i=>if h:i<m.length then m[i].v else undef) _ ?_
 intro i hi
 have h1:i<l.length:=by omega
 have h2:i<m.length:=by omega
 rw [part_agg w cell_row.1 rfl cell_row.2,part_agg w cell_row.1 rfl cell_row.2,flat_part h1,flat_part h2]
 simp only [dif_pos h1,dif_pos h2]
 refine ⟨trivial,trivial,?_⟩
 rw [eq_cell d l[i] m[i] w]
 refine congrArg (fun b=>Result.ok b w) ?_
 rw [List.getElem?_eq_getElem h1,List.getElem?_eq_getElem h2]
 simp
structure Rp where
 floor:Int
 cells:List Cel
def Rp.arr (r:Rp):Array Value:=(.int .i64 r.floor :: flat r.cells).toArray
def Rp.zero:Rp:=⟨0,List.replicate 8 Cel.zero⟩
theorem Rp.size {r:Rp} (h:r.cells.length=8):r.arr.size=25:=by
 unfold Rp.arr; simp [flat_length,h]
theorem Rp.one (r:Rp):r.arr.all (·.oneCell')=true:=by
 unfold Rp.arr
 apply all_oneCell_toArray
 intro v hv
 rcases List.mem_cons.1 hv with rfl | h
 ·rfl
 ·exact flat_one _ v h
theorem Rp.at0 (r:Rp):r.arr[0]?=some (.int .i64 r.floor):=by simp [Rp.arr]
theorem Rp.at (r:Rp) {k:Nat} (h:k<r.cells.length):r.arr[1+k*3]?=some (.int .i64 r.cells[k].e)∧r.arr[1+k*3+1]?=some (.int .i64 r.cells[k].n)∧r.arr[1+k*3+2]?=some (.string r.cells[k].d):=by
 obtain ⟨h1,h2,h3⟩:=flat_at r.cells k h
 unfold Rp.arr
 rw [show 1+k*3=k*3+1 from by omega,show k*3+1+2=k*3+2+1 from by omega]
 refine ⟨?_,?_,?_⟩ <;> simpa
theorem Rp.set (r:Rp) {k:Nat} (c:Cel) (h:k<r.cells.length) :
  ((r.arr.setIfInBounds (1+k*3) (.int .i64 c.e)).setIfInBounds (1+k*3+1) (.int .i64 c.n)).setIfInBounds (1+k*3+2) (.string c.d)=(Rp.mk r.floor (r.cells.set k c)).arr:=by
 unfold Rp.arr
 apply Array.toList_inj.1
 simp only [Array.toList_setIfInBounds]
 rw [show 1+k*3=k*3+1 from by omega,show k*3+1+2=k*3+2+1 from by omega,List.set_cons_succ,List.set_cons_succ,List.set_cons_succ,flat_set r.cells k c h]
theorem Rp.setFloor (r:Rp) (f:Int):r.arr.setIfInBounds 0 (.int .i64 f)=(Rp.mk f r.cells).arr:=by simp [Rp.arr]
theorem Rp.ext' {r q:Rp} (h:r.floor=q.floor∧r.cells=q.cells):r=q:=by cases r; cases q; simp_all
def eqRp (r q:Rp):Bool:=decide (r.floor=q.floor∧r.cells=q.cells)
theorem eq_rp (d:Nat) (r q:Rp) (hr:r.cells.length=8) (hq:q.cells.length=8) (w:World) :
  (Op.equalIn (d+4) 41 (.agg r.arr) (.agg q.arr)).run Tryz.prog w=.ok (eqRp r q) w:=by
 have hx:∀ r:Rp,r.cells.length=8→r.arr.extract 1 (1+24)=(flat r.cells).toArray:=by
  intro r hr
  apply Array.toList_inj.1
  unfold Rp.arr
  simp only [Array.toList_extract,List.extract_eq_take_drop,List.drop_succ_cons,List.drop_zero]
  exact List.take_of_length_le (by rw [flat_length,hr]; omega)
 have:=eq_struct (d+3) 41 r.arr q.arr w rp_row.1 rp_row.2.2.1 _ rp_row.2.2.2
  (fun o=>if o=0 then r.floor == q.floor else decide (r.cells=q.cells)) ?_
 ·rw [this]
  refine congrArg (fun b=>Result.ok b w) ?_
  unfold eqRp
  rw [Bool.eq_iff_iff]
  simp
 ·intro s hs
  simp only [List.mem_cons,List.mem_nil_iff,or_false] at hs
  rcases hs with rfl | rfl
  ·exact ⟨by decide,_,_,run_part_plain w plain_int.1 r.at0,run_part_plain w plain_int.1 q.at0,run_equalIn_int w (d+2) _ _ _ _ _ under_int.1⟩
  ·refine ⟨by decide,_,_,part_agg w cells_row.1 rfl cells_row.2,part_agg w cells_row.1 rfl cells_row.2,?_⟩
   rw [hx r hr,hx q hq]
   exact eq_cells d r.cells q.cells hr hq w
theorem neq_rp (r q:Rp) (hr:r.cells.length=8) (hq:q.cells.length=8) (w:World):(binOp .neq 41 (.agg r.arr) (.agg q.arr)).run Tryz.prog w=.ok (.bool (!eqRp r q)) w:=by
 rw [run_neq_struct,eq_rp 9996 r q hr hq]; rfl
end Go.Proofs.YtbkmdmmgalmmaaaGreatDoor

namespace Go.Proofs.YtbkmdmmgalmmaaaGreatDoor
open Go.RowKit
end Go.Proofs.YtbkmdmmgalmmaaaGreatDoor

namespace Go.Proofs.YtbkmdmmgalmmaaaGreatDoor
open Go.RowKit
theorem clone_reg (l:List (Int × Int)) (a:Option Addr) (cap:Nat) (w:World) (hl:l.length*16≤140737488355328) (hr:Pairs w.heap.size w a l) :
  Calls Tryz.prog 135 #[.slice a l.length cap] w fun e w'=>∃ v,e=.returned v∧OwnP w.heap.size w' v l∧Below w.heap.size w w':=by
 have hq:=fun w=>Lib.run_eql_slice_nil (P:=Tryz.prog) w 33 97 a l.length cap 0 0 Tryz.underlying33
 obtain ⟨i0,hi,hz0,hz1,hz2⟩:=info_parts Tryz.infoReg
 cases a with
 | none =>
  have hz:l=[]:=by
   cases l with
   | nil=>rfl
   | cons r l=>obtain ⟨b,o,e,_⟩:=hr 0 (by simp); cases e
  subst hz
  simp only [List.length_nil,Option.isNone_none] at hq ⊢
  clear hi hz0 hz1 hz2 hr hl
  go_enter Tryz.func135,Tryz.ntmps135
  go_wp2
  go_ret
  exact ⟨_,rfl,⟨rfl,.inl ⟨rfl,rfl⟩⟩,Below.refl _ _⟩
 | some ad =>
  have hcase:l=[]∨∃ b o,ad=⟨b,o,none⟩∧b<w.heap.size:=by
   cases l with
   | nil=>exact .inl rfl
   | cons r l=>obtain ⟨b,o,e,hb,_⟩:=hr 0 (by simp); exact .inr ⟨b,o,by simpa using e,hb⟩
  have hnews:∀ j u,(pcells l)[j]?=some u→(w.alloc (.cells #[] 97)).cell? (ad.add j)=some u:=by
   rcases hcase with rfl | ⟨b,o,rfl,hb⟩
   ·intro j u h; simp [pcells] at h
   ·exact pairs_cells (hr.below (bal w _) (Nat.le_refl _))
  have hown:(w.alloc (.cells #[] 97)).ownsRow w.heap.size 97 2 (.slice (some ⟨w.heap.size,0,none⟩) 0 0) 0 [] :=
   ⟨rfl,.inr ⟨w.heap.size,0,#[],rfl,Nat.le_refl _,heap_alloc_new _ _,Nat.le_refl _,by simp [maxLen],rfl,rfl⟩⟩
  go_enter Tryz.func135,Tryz.ntmps135
  go_wp2_with (at_builtin; refine wpList_append_own _ rfl _ _ 33 rfl w.heap.size 97 i0 (.agg #[.int .i64 0,.int .i64 0]) 2 16 Tryz.underlying33 hi hz0 hz1 hz2 rfl (by decide) _ _ _ rfl hown ad l.length cap (pcells l) rfl (pcells_length l) hnews (pcells_one l) ?c3 ?c4 ?c5 ?_)
  case c3=>unfold maxLen; omega
  case c4=>omega
  case c5=>simp
  intro v' w1 hown1 hg1 _
  go_wp2
  go_ret
  refine ⟨_,rfl,?_,?_⟩
  ·simpa [OwnP] using hown1
  ·exact (bal w _).grown hg1 (by simp) (fun k hk=>by simp [Value.ownBlock] at hk; omega)
end Go.Proofs.YtbkmdmmgalmmaaaGreatDoor

namespace Go.Proofs.YtbkmdmmgalmmaaaGreatDoor
open Go.RowKit
def without (who:Int) (l:List (Int × Int)):List (Int × Int):=l.filter fun r=>!(r.1 == who)
theorem without_all (who:Int) (l:List (Int × Int)) (h:∀ r∈l,r.1≠who):without who l=l:=by
 unfold without
 rw [List.filter_eq_self]
 intro r hr
 simp [h r hr]
theorem without_snoc_hit (who:Int) (l:List (Int × Int)) (k:Nat) (h:k<l.length) (e:l[k].1=who):without who (l.take (k+1))=without who (l.take k):=by
 rw [List.take_succ_eq_append_getElem h]
 unfold without
 rw [List.filter_append]
 simp only [List.filter_cons,List.filter_nil]
 simp [e]
theorem without_snoc_miss (who:Int) (l:List (Int × Int)) (k:Nat) (h:k<l.length) (e:l[k].1≠who):without who (l.take (k+1))=without who (l.take k) ++ [l[k]]:=by
 rw [List.take_succ_eq_append_getElem h]
 unfold without
 rw [List.filter_append]
 simp only [List.filter_cons,List.filter_nil]
 simp [e]
structure DInv (who:Int) (l:List (Int × Int)) (cur:Array Value) (k i:Nat):Prop where
 len:i=(without who (l.take k)).length
 pre:cur.toList.take (i*2)=pcells (without who (l.take k))
 rest:∀ m (h:m<l.length),k≤m→cur[m*2]?=some (.int .i64 l[m].1)∧cur[m*2+1]?=some (.int .i64 l[m].2)
 lt:i<k
 size:l.length*2≤cur.size
theorem row_rest {l:List (Int × Int)} {cur:Array Value} (h:cur.toList.take (l.length*2)=pcells l) (m:Nat) (hm:m<l.length):cur[m*2]?=some (.int .i64 l[m].1)∧cur[m*2+1]?=some (.int .i64 l[m].2):=by
 obtain ⟨p1,p2⟩:=pcells_at l m hm
 have hcell:∀ j,j<l.length*2→cur[j]?=(pcells l)[j]?:=by
  intro j hj
  rw [← h,List.getElem?_take_of_lt hj]; simp
 exact ⟨(hcell _ (by omega)).trans p1,(hcell _ (by omega)).trans p2⟩
theorem DInv.start {who:Int} {l:List (Int × Int)} {cur:Array Value} {k:Nat} (hk:k<l.length) (e:l[k].1=who) (hn:∀ j (_:j<k) (hj:j<l.length),l[j].1≠who) (hc:cur.toList.take (l.length*2)=pcells l) (hs:l.length*2≤cur.size) :
  DInv who l cur (k+1) k:=by
 have hw:without who (l.take k)=l.take k:=without_all who _ (fun r hr=>by
  obtain ⟨j,hj,rfl⟩:=List.getElem_of_mem hr
  rw [List.length_take] at hj
  rw [List.getElem_take]
  exact hn j (by omega) (by omega))
 refine ⟨?_,?_,fun m hm _=>row_rest hc m hm,by omega,hs⟩
 ·rw [without_snoc_hit who l k hk e,hw]; simp; omega
 ·rw [without_snoc_hit who l k hk e,hw]
  have:(cur.toList.take (l.length*2)).take (k*2)=(pcells l).take (k*2):=by rw [hc]
  rw [List.take_take,Nat.min_eq_left (by omega)] at this
  rw [this]
  have h2:pcells l=pcells (l.take k) ++ pcells (l.drop k):=by rw [← pcells_append,List.take_append_drop]
  rw [h2,List.take_append_of_le_length (by rw [pcells_length]; simp; omega),List.take_of_length_le (by rw [pcells_length]; simp; omega)]
theorem DInv.drop {who:Int} {l:List (Int × Int)} {cur:Array Value} {k i:Nat} (h:DInv who l cur k i) (hk:k<l.length) (e:l[k].1=who):DInv who l cur (k+1) i :=
 ⟨by rw [without_snoc_hit who l k hk e]; exact h.len,by rw [without_snoc_hit who l k hk e]; exact h.pre,fun m hm hkm=>h.rest m hm (by omega),by have:=h.lt; omega,h.size⟩
theorem DInv.keep {who:Int} {l:List (Int × Int)} {cur:Array Value} {k i:Nat} (h:DInv who l cur k i) (hk:k<l.length) (e:l[k].1≠who) :
  DInv who l ((cur.setIfInBounds (i*2) (.int .i64 l[k].1)).setIfInBounds (i*2+1) (.int .i64 l[k].2)) (k+1) (i+1):=by
 have hlt:=h.lt
 have hsz:=h.size
 refine ⟨?_,?_,fun m hm hkm=>?_,by omega,by simpa using h.size⟩
 ·rw [without_snoc_miss who l k hk e]; simp [← h.len]
 ·rw [without_snoc_miss who l k hk e,pcells_append,← h.pre]
  apply List.ext_getElem?
  intro j
  rw [List.getElem?_append]
  have hl:(cur.toList.take (i*2)).length=i*2:=by simp; omega
  rw [hl]
  by_cases hj:j<i*2
  ·rw [if_pos hj,List.getElem?_take_of_lt (by omega),List.getElem?_take_of_lt hj]
   simp only [Array.getElem?_toList,Array.getElem?_setIfInBounds]
   rw [if_neg (by omega),if_neg (by omega)]
  ·rw [if_neg hj]
   by_cases hj2:j<(i+1)*2
   ·rw [List.getElem?_take_of_lt hj2]
    simp only [Array.getElem?_toList,Array.getElem?_setIfInBounds,Array.size_setIfInBounds]
    rcases (by omega:j=i*2∨j=i*2+1) with rfl | rfl
    ·rw [if_neg (by omega),if_pos rfl,if_pos (by omega)]; simp [pcells]
    ·rw [if_pos rfl,if_pos (by omega)]; simp [pcells]
   ·rw [List.getElem?_eq_none (by simp; omega),List.getElem?_eq_none (by simp [pcells]; omega)]
 ·have:=h.rest m hm (by omega)
  simp only [Array.getElem?_setIfInBounds]
  rw [if_neg (by omega),if_neg (by omega),if_neg (by omega),if_neg (by omega)]
  exact this
theorem DInv.fin {who:Int} {l:List (Int × Int)} {cur:Array Value} {i:Nat} (h:DInv who l cur l.length i):i=(without who l).length∧cur.toList.take (i*2)=pcells (without who l):=by
 have h1:=h.len
 have h2:=h.pre
 rw [List.take_length] at h1 h2
 exact ⟨h1,h2⟩
end Go.Proofs.YtbkmdmmgalmmaaaGreatDoor

namespace Go.Proofs.YtbkmdmmgalmmaaaGreatDoor
open Go.RowKit
def OwnI (B:Nat) (w:World) (v:Value) (l:List Int):Prop:=w.ownsRow B 3 1 v l.length (l.map (Value.int .i64))
theorem Tryz.infoInt:(Tryz.prog.info? 3).map (fun i=>(i.zero,i.size,i.bytes))=some (some (.int .i64 0),1,8):=by kernel_rfl
theorem OwnI.shape {B:Nat} {w:World} {v:Value} {l:List Int} (h:OwnI B w v l):∃ a cap,v=.slice a l.length cap∧Ints w.heap.size w a l:=by
 obtain ⟨h1,h2⟩:=h
 rcases h2 with ⟨rfl,hn⟩ | ⟨g,cap,cur,rfl,hg,hh,hc,hm,hs,ht⟩
 ·have:l=[]:=List.length_eq_zero_iff.1 hn
  subst this
  exact ⟨none,0,rfl,Ints.nil _ _ _⟩
 ·refine ⟨_,cap,rfl,fun i hi=>?_⟩
  have hlt:g<w.heap.size:=(Array.getElem?_eq_some_iff.1 hh).1
  refine ⟨g,0,rfl,hlt,?_⟩
  have hcell:w.cell? ⟨g,0+i,none⟩=(l.map (Value.int .i64))[i]?:=by
   rw [← ht,List.getElem?_take_of_lt (by omega)]
   simp [World.cell?,hh]
  rw [hcell]; simp [hi]
theorem OwnI.mono {B C:Nat} {w:World} {v:Value} {l:List Int} (h:OwnI C w v l) (hB:B≤C):OwnI B w v l:=by
 obtain ⟨h1,h2⟩:=h
 refine ⟨h1,?_⟩
 rcases h2 with h2 | ⟨g,cap,cur,e1,e2,e3⟩
 ·exact .inl h2
 ·exact .inr ⟨g,cap,cur,e1,by omega,e3⟩
theorem OwnI.blk {B:Nat} {w:World} {v:Value} {l:List Int} (h:OwnI B w v l):∀ k,v.ownBlock=some k→B≤k:=by
 obtain ⟨_,h2⟩:=h
 rcases h2 with ⟨rfl,_⟩ | ⟨g,cap,cur,rfl,hg,_⟩
 ·intro k hk; cases hk
 ·intro k hk; simp [Value.ownBlock] at hk; omega
theorem OwnI.below {B:Nat} {w w':World} {v:Value} {l:List Int} (h:OwnI B w v l) (hb:Below w.heap.size w w'):OwnI B w' v l:=by
 obtain ⟨h1,h2⟩:=h
 refine ⟨h1,?_⟩
 rcases h2 with h2 | ⟨g,cap,cur,e1,e2,e3,e4⟩
 ·exact .inl h2
 ·exact .inr ⟨g,cap,cur,e1,e2,by rw [hb.block g ((Array.getElem?_eq_some_iff.1 e3).1)]; exact e3,e4⟩
def othersL (who:Int) (l:List (Int × Int)):List Int:=(without who l).map (·.1)
theorem others_hit (who:Int) (l:List (Int × Int)) (k:Nat) (h:k<l.length) (e:l[k].1=who):othersL who (l.take (k+1))=othersL who (l.take k):=by
 unfold othersL; rw [without_snoc_hit who l k h e]
theorem others_miss (who:Int) (l:List (Int × Int)) (k:Nat) (h:k<l.length) (e:l[k].1≠who):othersL who (l.take (k+1))=othersL who (l.take k) ++ [l[k].1]:=by
 unfold othersL; rw [without_snoc_miss who l k h e]; simp
theorem others_len (who:Int) (l:List (Int × Int)) (k:Nat):(othersL who (l.take k)).length≤k:=by
 unfold othersL without
 rw [List.length_map]
 exact Nat.le_trans (List.length_filter_le _ _) (by simp; omega)
set_option maxHeartbeats 1000000 in
theorem others_any (s:St) (a:Option Addr) (cap:Nat) (who:Int) (w:World) (hr:StR w s a) (hl:s.regs.length≤100) :
  Calls Tryz.prog 91 #[stV s a cap,.int .i64 who] w fun e w'=>∃ v,e=.returned v∧OwnI w.heap.size w' v (othersL who s.regs)∧Below w.heap.size w w':=by
 obtain ⟨g,l,t,h,st⟩:=s
 obtain ⟨_,hr⟩:=hr
 dsimp only at hl hr
 obtain ⟨i0,hi,hz0,hz1,hz2⟩:=info_parts Tryz.infoInt
 go_enter Tryz.func91,Tryz.ntmps91
 go_wp2
 go_loopw [5,11] (fun v i wr=>∃ k:Nat,k≤l.length∧i=.int .i64 k∧OwnI (w.heap.size+1) wr v (othersL who (l.take k))∧Below (w.heap.size+1) (w.alloc (.cells #[.int .i64 g,.slice a l.length cap,.int .i64 t,.int .i64 h,.bool st] 35)) wr) (fun _ i _=>l.length - (intOf i).toNat)
 case atStart=>exact ⟨0,by omega,rfl,⟨rfl,.inl ⟨rfl,rfl⟩⟩,Below.refl _ _⟩
 case round =>
  obtain ⟨k,hk,rfl,hown,hb⟩:=hrel
  have HOWN:=Lib.hid hown
  have HBLK:=Lib.hid hown.blk
  clear hown
  have hs:=bsz hb
  have hol:=others_len who l k
  by_cases hlt:k<l.length
  ·obtain ⟨b,o,rfl,hbs,h1,h2⟩:=hr k hlt
   have c1:=((bover hb (by omega)).cell (p:=⟨b,o+k*2,none⟩) hbs).trans h1
   have c2:=((bover hb (by omega)).cell (p:=⟨b,o+k*2+1,none⟩) hbs).trans h2
   clear hr h1 h2
   rcases (by omega:l[k].1=who∨l[k].1≠who) with he | he
   ·have heb:(l[k].1 != who)=false:=by simp [he]
    have HE:=Lib.hid (others_hit who l k hlt he)
    clear he
    go_wp2
    go_roundw
    case rel=>exact ⟨k+1,by omega,by go_num,by rw [HE.out]; exact HOWN.out.alloc _,hb.alloc (by omega) _⟩
    case measure=>simp [intOf]; omega
   ·have heb:(l[k].1 != who)=true:=by simp [he]
    have HE:=Lib.hid (others_miss who l k hlt he)
    clear he
    go_wp2_with (at_builtin; refine wpList_append_own _ rfl _ _ 54 rfl (w.heap.size+1) 3 i0 (.int .i64 0) 1 8 Tryz.underlying54 hi hz0 hz1 hz2 rfl (by decide) _ _ _ rfl ((HOWN.out.alloc _).alloc _) ⟨wr.heap.size+1,0,none⟩ 1 1 [.int .i64 l[k].1] rfl rfl ?c1 ?c2 ?c3 ?c4 ?c5 ?_)
    case c1 =>
     intro j u hj
     match j,hj with
     | 0,hj=>simp at hj; subst hj; simp [Addr.add]
    case c2=>intro u hu; simp at hu; subst hu; rfl
    case c3=>unfold maxLen; omega
    case c4=>omega
    case c5=>simp; omega
    intro v' w1 hown1 hg1 _
    have hb1:Below (w.heap.size+1) (w.alloc (.cells #[.int .i64 g,.slice (some ⟨b,o,none⟩) l.length cap,.int .i64 t,.int .i64 h,.bool st] 35)) w1:=((hb.alloc (by omega) _).alloc (by simp; omega) _).grown hg1 (by simp; omega) HBLK.out
    have HO1:=Lib.hid hown1
    clear hown1 hg1
    go_wp2
    go_roundw
    case rel=>exact ⟨k+1,by omega,by go_num,by rw [HE.out]; simpa [OwnI] using HO1.out,hb1⟩
    case measure=>simp [intOf]; omega
  ·go_wp2
   go_ret
   exact ⟨_,rfl,by rw [← List.take_of_length_le (show l.length≤k by omega)]; exact HOWN.out.mono (by omega),bover hb (by omega)⟩
end Go.Proofs.YtbkmdmmgalmmaaaGreatDoor

namespace Go.Proofs.YtbkmdmmgalmmaaaGreatDoor
open Go.RowKit
theorem OwnI.keeps {S:Nat→Prop} {B:Nat} {w w':World} {v:Value} {l:List Int} (h:OwnI B w v l) (k:Keeps S w w') (hS:∀ k,S k→k<B):OwnI B w' v l:=by
 obtain ⟨h1,h2⟩:=h
 refine ⟨h1,?_⟩
 rcases h2 with h2 | ⟨g,cap,cur,e1,e2,e3,e4⟩
 ·exact .inl h2
 ·refine .inr ⟨g,cap,cur,e1,e2,?_,e4⟩
  rw [k.block g (fun e=>by have:=hS g e; omega) (Array.getElem?_eq_some_iff.1 e3).1]
  exact e3
theorem OwnI.ints {B:Nat} {w:World} {a:Option Addr} {l:List Int} {c:Nat} (h:OwnI B w (.slice a l.length c) l):Ints w.heap.size w a l:=by
 obtain ⟨a',c',e,hi⟩:=h.shape
 cases e; exact hi
def HiI (B:Nat) (w:World) (a:Option Addr) (l:List Int):Prop :=
 ∀ i (h:i<l.length),∃ b o,a=some ⟨b,o,none⟩∧B≤b∧b<w.heap.size∧w.cell? ⟨b,o+i,none⟩=some (.int .i64 l[i])
theorem HiI.ints {B:Nat} {w:World} {a:Option Addr} {l:List Int} (h:HiI B w a l):Ints w.heap.size w a l:=by
 intro i hi
 obtain ⟨b,o,e,_,h2,h3⟩:=h i hi
 exact ⟨b,o,e,h2,h3⟩
theorem HiI.keeps {S:Nat→Prop} {B:Nat} {w w':World} {a:Option Addr} {l:List Int} (h:HiI B w a l) (k:Keeps S w w') (hS:∀ k,S k→k<B):HiI B w' a l:=by
 intro i hi
 obtain ⟨b,o,e,h1,h2,h3⟩:=h i hi
 exact ⟨b,o,e,h1,Nat.lt_of_lt_of_le h2 k.size,by rw [k.cell (fun x=>by have:=hS _ x; omega) h2]; exact h3⟩
theorem HiI.mono {B C:Nat} {w:World} {a:Option Addr} {l:List Int} (h:HiI B w a l) (hC:C≤B):HiI C w a l:=by
 intro i hi
 obtain ⟨b,o,e,h1,h2⟩:=h i hi
 exact ⟨b,o,e,by omega,h2⟩
theorem HiI.nil (B:Nat) (w:World) (a:Option Addr):HiI B w a []:=fun i hi=>absurd hi (by simp)
theorem HiI.tail {B:Nat} {w:World} {b o:Nat} {x:Int} {t:List Int} (h:HiI B w (some ⟨b,o,none⟩) (x :: t)):HiI B w (some ⟨b,o+1,none⟩) t:=by
 intro i hi
 obtain ⟨b',o',e,h0,h1,c1⟩:=h (i+1) (by simp; omega)
 obtain ⟨rfl,rfl⟩:b=b'∧o=o':=by simpa using e
 exact ⟨b,o+1,rfl,h0,h1,by rw [show o+1+i=o+(i+1) from by omega,c1]; rfl⟩
theorem OwnI.hi {B:Nat} {w:World} {a:Option Addr} {l:List Int} {n c:Nat} (h:OwnI B w (.slice a n c) l):HiI B w a l:=by
 obtain ⟨h1,h2⟩:=h
 rcases h2 with ⟨e,hn⟩ | ⟨g,cap,cur,e,hg,hh,hc,hm,hs,ht⟩
 ·obtain rfl:=List.length_eq_zero_iff.1 hn
  exact HiI.nil _ _ _
 ·cases e
  intro i hi
  have hlt:g<w.heap.size:=(Array.getElem?_eq_some_iff.1 hh).1
  refine ⟨g,0,rfl,hg,hlt,?_⟩
  have hcell:w.cell? ⟨g,0+i,none⟩=(l.map (Value.int .i64))[i]?:=by
   rw [← ht,List.getElem?_take_of_lt (by omega)]
   simp [World.cell?,hh]
  rw [hcell]; simp [hi]
end Go.Proofs.YtbkmdmmgalmmaaaGreatDoor
