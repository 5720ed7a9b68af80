/-
  TgDone, KeptP
-/
import Derived.Test.YtbkmdmmgalmmaaaGreatDoorQ41
namespace Go.Proofs.YtbkmdmmgalmmaaaGreatDoor
open Go.RowKit
section
variable {n:Nat} {S:Cel→Prop} {B:Int} {t:Tg}
theorem deliver_fly (t:Tg) (i:Int) (b:Bool):∀ m∈(t.deliver i b).1.fly,m∈t.fly:=by
 unfold Tg.deliver
 split
 ·exact fun m hm=>hm
 have e:∀ m∈(if b then t.fly else t.fly.eraseIdx i.toNat),m∈t.fly:=by
  intro m hm
  cases b
  ·exact List.mem_of_mem_eraseIdx hm
  ·exact hm
 dsimp only
 split
 ·rw [(came_same _ _).2.2.2.2.2]; exact e
 ·exact e
end
end Go.Proofs.YtbkmdmmgalmmaaaGreatDoor

namespace Go.Proofs.YtbkmdmmgalmmaaaGreatDoor
open Go.RowKit
def lessTo (s t:St):Nat→Bool
 | 0=>false
 | k+1=>(lessTo s t k || lessAt pmay s t ((k:Int)+1) true) || lessAt pmay s t ((k:Int)+1) false
theorem lessTo_four (s t:St):lessTo s t 4=lessB pmay s t:=by
 unfold lessB
 simp only [lessTo,List.range,List.range.loop,List.any_cons,List.any_nil]
 rcases lessAt pmay s t (((0:Nat):Int)+1) true <;> rcases lessAt pmay s t (((0:Nat):Int)+1) false <;>
 rcases lessAt pmay s t (((1:Nat):Int)+1) true <;> rcases lessAt pmay s t (((1:Nat):Int)+1) false <;>
 rcases lessAt pmay s t (((2:Nat):Int)+1) true <;> rcases lessAt pmay s t (((2:Nat):Int)+1) false <;>
 rcases lessAt pmay s t (((3:Nat):Int)+1) true <;> rcases lessAt pmay s t (((3:Nat):Int)+1) false <;> rfl
structure KO (E:Int) (g0:Gp) (v:Tg):Prop where
 ep:v.k.ep=E
 old:∀ m∈v.fly,m.c.e<E
 same:∀ k,k<3→flG g0 k=E→v.g.r.getD k Rp.zero=g0.r.getD k Rp.zero
theorem KO.deliver {n:Nat} {S:Cel→Prop} {B E:Int} {g0:Gp} {v:Tg} (h:TI n S B v) (ko:KO E g0 v) (i:Int) (b:Bool):KO E g0 (v.deliver i b).1:=by
 have hfly:=deliver_fly v i b
 unfold Tg.deliver at hfly ⊢
 by_cases hi:i<0∨(v.fly.length:Int)≤i
 ·rw [if_pos hi]; exact ko
 ·rw [if_neg hi] at hfly ⊢
  have hm:=fly_get hi
  generalize v.fly.getD i.toNat ⟨0,0,Cel.zero,0⟩=m at hm hfly ⊢
  dsimp only at hfly ⊢
  have hmm:=h.msg m hm
  have hlen:m.tt.toNat<v.g.r.length:=by rw [h.qi.ok.r3]; omega
  have key:∀ k,k<3→flG g0 k=E→(v.g.deliver m.tt.toNat m.at'.toNat m.c).r.getD k Rp.zero=g0.r.getD k Rp.zero:=by
   intro k hk hf
   unfold Gp.deliver
   split
   ·rw [getR_setR hlen]
    split
    ·rename_i e
     have hs:=ko.same k hk hf
     rw [← e,Rp.admit_no,hs]
     have h1:=ko.old m hm
     have h2:(v.g.r.getD k Rp.zero).floor=E:=by rw [hs]; exact hf
     omega
    ·exact ko.same k hk hf
   ·exact ko.same k hk hf
  split
  ·rename_i hd
   rw [if_pos hd] at hfly
   refine ⟨by rw [(came_same _ _).1]; exact ko.ep,fun x hx=>ko.old x (hfly x hx),fun k hk hf=>?_⟩
   rw [(came_same _ _).2.1]
   exact key k hk hf
  ·rename_i hd
   rw [if_neg hd] at hfly
   exact ⟨ko.ep,fun x hx=>ko.old x (hfly x hx),key⟩
theorem kept_law {n:Nat} {S:Cel→Prop} {B:Int} {t:Tg} (h:TI n S B t) (hB:B+2<1000000000000000) {c:Cmd} (hf:cmdFault c=0) (ho:c.op≤6) {r:Tg × ByteArray × Int × Int} (hr:t.askN n c 6=r) :
  ∃ S',TI n S' (B+2) r.1∧(r.2.2.2=0→(lessB pmay t.k.s r.1.k.s=false→r.1.k.ep=t.k.ep)∧(lessB pmay t.k.s r.1.k.s=true→t.k.ep<r.1.k.ep∧r.1.wait=[]∧KO r.1.k.ep r.1.g r.1)):=by
 obtain ⟨u,f,o,e⟩:=ordered_six h hB hf ho
 rw [hr] at e
 subst e
 have h':=h.deaf c.who
 have hk:(t.deaf c.who).k=t.k:=rfl
 refine ⟨S,o.ti h',fun he=>?_⟩
 dsimp only at he ⊢
 cases o with
 | bad hf' _=>exact absurd he hf'
 | less d l h0 hm hd hf' =>
  rw [hk] at l
  refine ⟨fun hl=>?_,fun _=>⟨by show t.k.ep<t.k.ep+1; omega,rfl,rfl,fun m hm=>?_,fun k _ _=>rfl⟩⟩
  ·exfalso
   have:lessB pmay t.k.s (pdo t.k.s c).1=false:=hl
   rw [l] at this; cases this
  ·have:=h.msg m hm
   show m.c.e<t.k.ep+1
   omega
 | busy f' hf'=>exfalso; rcases hf' with rfl | rfl <;> cases he
 | more d l h0 hd hf' =>
  rw [hk] at l
  refine ⟨fun _=>rfl,fun hl=>?_⟩
  exfalso
  have:lessB pmay t.k.s (pdo t.k.s c).1=true:=hl
  rw [l] at this; cases this
end Go.Proofs.YtbkmdmmgalmmaaaGreatDoor
