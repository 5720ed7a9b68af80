/-
  Contracts over one invariant: a keeper over its disk; plain laws of falls; Kept; what the walks keep.
-/
import Derived.Test.YtbkmdmmgalmmaaaGreatDoorQ22
import Derived.Test.YtbkmdmmgalmmaaaGreatDoorQ21
import Derived.Test.YtbkmdmmgalmmaaaGreatDoorQ02
import Derived.Test.YtbkmdmmgalmmaaaGreatDoorQ23
namespace Go.Proofs.YtbkmdmmgalmmaaaGreatDoor
open Go.RowKit
def KI (n:Nat) (w:World) (X:Nat→Prop) (D K:Nat) (k:Kp) (wx:World):Prop :=
 ∃ S a cap,KpR S wx K D n a cap k∧(∀ b,S b→w.heap.size≤b)∧w.heap.size≤K∧Below w.heap.size w wx∧(∀ b,X b→b<wx.heap.size∧¬ S b∧b≠K)∧∀ b o,a=some ⟨b,o,none⟩→k.s.regs≠[]→¬ X b
def Same (X:Nat→Prop) (w w':World):Prop:=∀ b,X b→w'.heap[b]?=w.heap[b]?
section
variable {n:Nat} {w wx w':World} {X:Nat→Prop} {D K:Nat} {k:Kp}
theorem KI.below (h:KI n w X D K k wx):Below w.heap.size w wx:=by obtain ⟨_,_,_,_,_,_,h,_⟩:=h; exact h
theorem KI.lt (h:KI n w X D K k wx):∀ b,X b→b<wx.heap.size:=by obtain ⟨_,_,_,_,_,_,_,h,_⟩:=h; exact fun b hb=>(h b hb).1
theorem KI.over (h:KI n w X D K k wx) (b:Below wx.heap.size wx w'):KI n w X D K k w':=by
 obtain ⟨S,a,cap,kr,lo,kb,bl,hx,ax⟩:=h
 exact ⟨S,a,cap,kr.below b,lo,kb,bl.trans (b.mono bl.size),fun c hc=>⟨Nat.lt_of_lt_of_le (hx c hc).1 b.size,(hx c hc).2⟩,ax⟩
theorem KI.drew (h:KI n w X D K k wx):KI n w X D K k wx.drew:=h.over (Below.refl _ _).drew
theorem KI.more (h:KI n w X D K k wx) (o:Obj):KI n w (fun b=>X b∨b=wx.heap.size) D K k (wx.alloc o):=by
 obtain ⟨S,a,cap,kr,lo,kb,bl,hx,ax⟩:=h
 have hK:=(Array.getElem?_eq_some_iff.1 kr.blk).1
 have hz:(wx.alloc o).heap.size=wx.heap.size+1:=by simp
 refine ⟨S,a,cap,kr.below (bal wx o),lo,kb,bl.trans ((bal wx o).mono bl.size),fun c hc=>?_,fun b q e hn hX=>?_⟩
 ·rcases hc with hc | rfl
  ·exact ⟨by have:=(hx c hc).1; omega,(hx c hc).2⟩
  ·exact ⟨by omega,fun e=>by have:=kr.lt _ e; omega,by omega⟩
 ·subst e
  rcases hX with hX | hX
  ·exact ax b q rfl hn hX
  ·have:=kr.str.blt hn; omega
theorem KI.set (h:KI n w X D K k wx) (kp:Keeps X wx w') (hX:∀ b,X b→w.heap.size≤b):KI n w X D K k w':=by
 obtain ⟨S,a,cap,kr,lo,kb,bl,hx,ax⟩:=h
 have hK:=(Array.getElem?_eq_some_iff.1 kr.blk).1
 exact ⟨S,a,cap,⟨(kp.block K (fun e=>(hx K e).2.2 rfl) hK).trans kr.blk,kr.dk.keeps kp (fun b e q=>(hx b q).2.1 e),kr.nk,fun b e=>Nat.lt_of_lt_of_le (kr.lt b e) kp.size,kr.str.keeps kp ax,kr.ap⟩,lo,kb,bl.trans (kp.below bl.size hX),
  fun c hc=>⟨Nat.lt_of_lt_of_le (hx c hc).1 kp.size,(hx c hc).2⟩,ax⟩
end
theorem keepI (n:Nat) (w wx:World) (X:Nat→Prop) (D K:Nat) (k:Kp) (a':Option Addr) (cap':Nat) (ep:Int) (s:St) (h:KI n w X D K k wx) (ok:k.d.ok n) (hwl:k.d.wait.length≤900) (n6:6≤n)
  (h0:0≤k.num) (h1:k.num<1000000000000000) (hr:StR wx s a') (t:Tabs w) :
  Calls Tryz.prog 61 #[.pointer (some ⟨K,0,none⟩),.int .i64 ep,stV s a' cap'] wx fun e w'=>e=.returned (errV (k.keep n ep s).2)∧KI n w X D K (k.keep n ep s).1 w'∧Same X wx w':=by
 obtain ⟨S,a,cap,kr,lo,kb,bl,hx,ax⟩:=h
 refine (keep_any S wx K D n a a' cap cap' k ep s kr ok hwl n6 h0 h1 hr (t.on bl)).mono ?_
 rintro e w' ⟨rfl,S',a2,cap2,kr2,hs,kk,ha⟩
 have hsz:=bl.size
 refine ⟨rfl,⟨S',a2,cap2,kr2,fun b hb=>?_,kb,bl.trans (kk.below bl.size (fun q e=>?_)),fun c hc=>⟨Nat.lt_of_lt_of_le (hx c hc).1 kk.size,fun e=>?_,(hx c hc).2.2⟩,fun b o e hn hX=>?_⟩,fun c hc=>kk.block c (fun e=>?_) (hx c hc).1⟩
 ·rcases hs b hb with e | e
  ·exact lo b e
  ·omega
 ·rcases e with e | e
  ·exact lo q e
  ·omega
 ·rcases hs c e with e | e
  ·exact (hx c hc).2.1 e
  ·have:=(hx c hc).1; omega
 ·have:=(hx b hX).1
  rcases ha with ⟨ha,hq⟩ | ha
  ·exact ax b o (ha▸e) (hq▸hn) hX
  ·have:=ha b o e; omega
 ·rcases e with e | e
  ·exact (hx c hc).2.1 e
  ·exact (hx c hc).2.2 e
theorem best_kd {n:Nat} {d:Dk} {num ep:Int} {s:St} (h:KD n d num ep s):∃ f:Nat→Seen,(∀ k,k<2→Lk d k (f k).m (f k).e (f k).s)∧best f 2=⟨num,ep,s⟩:=by
 have p1:=h.p1
 rcases h.two with ⟨m,e,s',h0,h1,hlt⟩ | ⟨m,e,s',h0,h1,hlt⟩
 ·refine ⟨fun k=>if k=0 then ⟨num,ep,s⟩ else ⟨m,e,s'⟩,fun k hk=>?_,?_⟩
  ·rcases (by omega:k=0∨k=1) with rfl | rfl
   ·exact h0
   ·exact h1
  ·have e1:best (fun k=>if k=0 then (⟨num,ep,s⟩:Seen) else ⟨m,e,s'⟩) 1=⟨num,ep,s⟩:=if_pos (show (0:Int)<num by omega)
   unfold best
   rw [e1]
   exact if_neg (show ¬ num<m by omega)
 ·refine ⟨fun k=>if k=0 then ⟨m,e,s'⟩ else ⟨num,ep,s⟩,fun k hk=>?_,?_⟩
  ·rcases (by omega:k=0∨k=1) with rfl | rfl
   ·exact h0
   ·exact h1
  ·have e1:(best (fun k=>if k=0 then (⟨m,e,s'⟩:Seen) else ⟨num,ep,s⟩) 1).m<num:=by
    show (if (0:Int)<m then (⟨m,e,s'⟩:Seen) else nothing).m<num
    split
    ·exact hlt
    ·show (0:Int)<num; omega
   show (if (best (fun k=>if k=0 then (⟨m,e,s'⟩:Seen) else ⟨num,ep,s⟩) 1).m<num then _ else _)=_
   rw [if_pos e1]
   rfl
theorem open_kd (S:Nat→Prop) (w:World) (D n:Nat) (d:Dk) (num ep:Int) (s:St) (h:DkAt S w 147 186 D n d) (lt:∀ b,S b→b<w.heap.size) (hk:KD n d num ep s) (sz:Sz d) (t:Tabs w) :
  Calls Tryz.prog 78 #[.pointer (some ⟨D,0,none⟩)] w fun e w'=>∃ K a cap,e=.returned (.tuple #[.pointer (some ⟨K,0,none⟩),.nilIface])∧KpR S w' K D n a cap ⟨d,num,ep,s⟩∧w.heap.size≤K∧Below w.heap.size w w'∧∀ b o,a=some ⟨b,o,none⟩→w.heap.size≤b:=by
 obtain ⟨f,hf,hb⟩:=best_kd hk
 refine (open_best S w D n d f h lt hk.ok hk.up sz hk.n6 hf t).mono ?_
 intro e w' hp
 rw [hb] at hp
 exact hp.2 (by have:=hk.p1; show num≠0; omega)
theorem stateI2 (n:Nat) (w wx:World) (X:Nat→Prop) (D K:Nat) (k:Kp) (h:KI n w X D K k wx) (hl:k.s.regs.length≤1000) :
  Calls Tryz.prog 26 #[.pointer (some ⟨K,0,none⟩)] wx fun e w'=>∃ a2 cap2,e=.returned (stV k.s a2 cap2)∧StR w' k.s a2∧Below wx.heap.size wx w'∧∀ b o,a2=some ⟨b,o,none⟩→wx.heap.size≤b:=by
 obtain ⟨S,a,cap,kr,lo,kb,bl,hx,ax⟩:=h
 exact kstate_any S wx K D n a cap k kr hl
theorem epochI (n:Nat) (w wx:World) (X:Nat→Prop) (D K:Nat) (k:Kp) (h:KI n w X D K k wx) :
  Calls Tryz.prog 35 #[.pointer (some ⟨K,0,none⟩)] wx fun e w'=>e=.returned (.int .i64 k.ep)∧w'=wx:=by
 obtain ⟨S,a,cap,kr,lo,kb,bl,hx,ax⟩:=h
 exact kepoch_any S wx K D n a cap k kr
structure KG (n:Nat) (k:Kp):Prop where
 kd:KD n k.d k.num k.ep k.s
 sz:Sz k.d
theorem write_wait (n:Nat) (d:Dk) (p:Int) (s:ByteArray):(d.write n p s).wait.length≤d.wait.length+1:=by
 have e:=Dk.step_lists d
 unfold Dk.write
 split
 ·omega
 ·split
  ·simp
  ·rw [e.2.2]; omega
theorem flush_wait (d:Dk):d.flush.wait.length≤d.wait.length:=by
 have e:=Dk.step_lists d
 unfold Dk.flush
 split
 ·simp
 ·rw [e.2.2]; omega
theorem lay_wait (n a:Nat) (d:Dk) (A B:ByteArray):(layD n d a A B).1.wait.length≤d.wait.length+3:=by
 unfold layD
 dsimp only
 have h1:=write_wait n d ((2*a:Nat):Int) ⟨#[]⟩
 obtain ⟨d1,hd1⟩:∃ x,x=d.write n ((2*a:Nat):Int) ⟨#[]⟩:=⟨_,rfl⟩
 rw [← hd1] at h1 ⊢
 have h2:=flush_wait d1
 obtain ⟨d2,hd2⟩:∃ x,x=d1.flush:=⟨_,rfl⟩
 rw [← hd2] at h2 ⊢
 have h3:=write_wait n d2 ((2*a+1:Nat):Int) B
 obtain ⟨d3,hd3⟩:∃ x,x=d2.write n ((2*a+1:Nat):Int) B:=⟨_,rfl⟩
 rw [← hd3] at h3 ⊢
 have h4:=flush_wait d3
 obtain ⟨d4,hd4⟩:∃ x,x=d3.flush:=⟨_,rfl⟩
 rw [← hd4] at h4 ⊢
 have h5:=write_wait n d4 ((2*a:Nat):Int) A
 obtain ⟨d5,hd5⟩:∃ x,x=d4.write n ((2*a:Nat):Int) A:=⟨_,rfl⟩
 rw [← hd5] at h5 ⊢
 have h6:=flush_wait d5
 split
 ·show d1.wait.length≤_; omega
 split
 ·show d2.wait.length≤_; omega
 split
 ·show d3.wait.length≤_; omega
 split
 ·show d4.wait.length≤_; omega
 split
 ·show d5.wait.length≤_; omega
 split
 ·show d5.flush.wait.length≤_; omega
 ·show d5.flush.wait.length≤_; omega
theorem keep_good {n:Nat} {k:Kp} {ep:Int} {s:St} (he:1≤ep∧ep≤1000000) (hs:stateFault s=0):k.keep n ep s=k.lay n ep s:=by
 unfold Kp.keep
 rw [if_neg (by omega),if_neg (fun h=>h hs)]
theorem keep_law {n:Nat} {k:Kp} (h:KG n k) (hn:k.num<1000000000000000) {ep:Int} {s:St} (he:1≤ep∧ep≤1000000) (hs:stateFault s=0) :
  ((k.keep n ep s).2=0∧KG n (k.keep n ep s).1∧(k.keep n ep s).1.num=k.num+1∧(k.keep n ep s).1.ep=ep∧(k.keep n ep s).1.s=s) ∨
  ((k.keep n ep s).2=10∧Fell n (k.keep n ep s).1.d k.num k.ep k.s ep s∧Sz (k.keep n ep s).1.d∧(k.keep n ep s).1.d.wait.length≤3):=by
 rw [keep_good he hs]
 have hg:Good s:=(good_iff _).1 hs
 have L:=lay_law h.kd hn he hg
 have W:=lay_wait n (par (k.num+1)) k.d (kA (k.num+1) ep s) (kB (k.num+1) ep s)
 have Z:Sz (layD n k.d (par (k.num+1)) (kA (k.num+1) ep s) (kB (k.num+1) ep s)).1:=Sz.lay h.sz
 rw [h.kd.wait] at W
 unfold Kp.lay
 dsimp only at L ⊢
 obtain ⟨r,hr⟩:∃ r,layD n k.d (par (k.num+1)) (kA (k.num+1) ep s) (kB (k.num+1) ep s)=r:=⟨_,rfl⟩
 rw [hr] at L W Z ⊢
 by_cases h2:r.2=true
 ·rw [if_pos h2]
  exact .inl ⟨rfl,⟨L.2.1 h2,Z⟩,rfl,rfl,rfl⟩
 ·rw [if_neg h2]
  exact .inr ⟨rfl,L.2.2 (by simpa using h2),Z,by simpa using W⟩
section
variable {W wx w':World} {A B D K:Nat} {k:Kp} {s s2:St} {x x2:Option Addr} {y y2:Nat}
end
end Go.Proofs.YtbkmdmmgalmmaaaGreatDoor
