/-
  TgInv, TgStep, TgAsk, TgPlay
-/
import Derived.Test.YtajegiifabfcjaaGreatDoorQ18
namespace Go.Proofs.YtajegiifabfcjaaGreatDoor
open Go.RowKit
structure TI (n:Nat) (S:Cel→Prop) (B:Int) (t:Tg):Prop where
 kd:KD n t.k.d t.k.num t.k.ep t.k.s
 fuse:t.k.d.fuse=-1
 kb:t.k.num≤B
 eb:t.k.ep≤B
 qi:QI t.g t.k.ep
 box:t.b.ok
 n0:0≤t.num∧t.num≤B
 t0:0≤t.tag∧t.tag≤B
 fl:t.fly.length≤40
 msg:∀ m∈t.fly,0≤m.tt∧m.tt<3∧0≤m.at'∧m.at'<8∧m.c.e≤t.k.ep∧1≤m.tag∧m.tag≤t.tag∧S m.c
 wl:t.wait.length≤6
 wt:∀ w∈t.wait,1≤w.tag∧w.tag≤t.tag∧w.hv.length≤1
 ws:t.wait.Pairwise (fun a b=>a.tag<b.tag)
 dn:∀ x∈t.done,1≤x∧x≤t.tag
 fa:Fa S
 al:AllC S t.g
 sb:∀ x,S x→x.e<t.k.ep∨(x.e=t.k.ep∧x.n≤t.num)
section
variable {n:Nat} {S:Cel→Prop} {B:Int} {t:Tg}
theorem TI.e1 (h:TI n S B t):1≤t.k.ep∧t.k.ep≤1000000:=⟨h.kd.place.k.e0,h.kd.place.k.e1⟩
theorem TI.good (h:TI n S B t):Good t.k.s:=h.kd.place.k.g
theorem QI.ready (h:QI t.g t.k.ep):t.ready=t:=by unfold Tg.ready; rw [h.fence]
theorem QI.isReady (h:QI t.g t.k.ep):t.isReady=decide (2≤(t.g.mem t.k.ep).length):=by unfold Tg.isReady; rw [h.fence]
theorem TI.ready (h:TI n S B t):t.ready=t:=h.qi.ready
theorem TI.isReady (h:TI n S B t):t.isReady=decide (2≤(t.g.mem t.k.ep).length):=h.qi.isReady
theorem TI.mono (h:TI n S B t) {C:Int} (hB:B≤C):TI n S C t :=
 ⟨h.kd,h.fuse,by have:=h.kb; omega,by have:=h.eb; omega,h.qi,h.box,by have:=h.n0; omega,by have:=h.t0; omega,h.fl,h.msg,h.wl,h.wt,h.ws,h.dn,h.fa,h.al,h.sb⟩
theorem keep_live {k:Kp} (hk:KD n k.d k.num k.ep k.s) (hf:k.d.fuse=-1) (hn:k.num<1000000000000000) {ep:Int} {s:St} (he:1≤ep∧ep≤1000000) (hs:Good s) :
  (k.keep n ep s).2=0∧(k.keep n ep s).1.num=k.num+1∧(k.keep n ep s).1.ep=ep∧(k.keep n ep s).1.s=s∧KD n (k.keep n ep s).1.d (k.num+1) ep s∧(k.keep n ep s).1.d.fuse=-1:=by
 have hz:stateFault s=0:=(good_iff s).2 hs
 obtain ⟨l1,l2⟩:=layD_live (n:=n) hf hk.up (par (k.num+1)) (kA (k.num+1) ep s) (kB (k.num+1) ep s)
 obtain ⟨-,l3,-⟩:=lay_law hk hn he hs
 unfold Kp.keep
 rw [if_neg (by omega),if_neg (by omega)]
 unfold Kp.lay
 dsimp only
 rw [if_pos l1]
 exact ⟨rfl,rfl,rfl,rfl,l3 l1,l2⟩
theorem next_core (hkd:KD n t.k.d t.k.num t.k.ep t.k.s) (hfu:t.k.d.fuse=-1) (hqi:QI t.g t.k.ep) (hnum:t.k.num+2<1000000000000000) {s:St} (hs:Good s) :
  (2≤(t.g.mem t.k.ep).length→t.k.ep≠1000000→(t.next n s).2=0∧∃ d,(t.next n s).1={ t with k:=⟨d,t.k.num+2,t.k.ep+1,s⟩,g:=t.g.fence (t.k.ep+1),num:=0,wait:=[] }∧KD n d (t.k.num+2) (t.k.ep+1) s∧d.fuse=-1) ∧
  (¬ 2≤(t.g.mem t.k.ep).length→t.next n s=(t,7))∧(2≤(t.g.mem t.k.ep).length→t.k.ep=1000000→t.next n s=(t,6)):=by
 refine ⟨fun hm he=>?_,fun hm=>?_,fun hm he=>?_⟩
 ·have h1:1≤t.k.ep∧t.k.ep≤1000000:=⟨hkd.place.k.e0,hkd.place.k.e1⟩
  obtain ⟨k1,k2,k3,k4,k5,k6⟩:=keep_live hkd hfu (by omega) (ep:=t.k.ep+1) (s:=t.k.s) (by omega) hkd.place.k.g
  obtain ⟨q1,q2,-⟩:=fence_next hqi hm
  obtain ⟨kk,hkk⟩:∃ kk,kk=(t.k.keep n (t.k.ep+1) t.k.s).1:=⟨_,rfl⟩
  rw [← hkk] at k2 k3 k4 k5 k6
  obtain ⟨m1,m2,m3,m4,m5,m6⟩:=keep_live (k:=kk) (by rw [k2,k3,k4]; exact k5) k6 (by rw [k2]; omega) (ep:=t.k.ep+1) (s:=s) (by omega) hs
  unfold Tg.next
  rw [hqi.isReady,if_neg (by simp [hm]),if_neg he,hqi.ready]
  unfold Tg.keep
  dsimp only
  rw [if_neg (by simp [k1]),← hkk]
  have e2:({ t with k:=kk }:Tg).fresh.isReady=true:=by
   unfold Tg.isReady Tg.fresh
   dsimp only
   rw [k3,q2]
   exact decide_eq_true hm
  rw [if_neg (by rw [e2]; simp)]
  unfold Tg.ready Tg.fresh
  dsimp only
  rw [k3]
  refine ⟨m1,(kk.keep n (t.k.ep+1) s).1.d,?_,?_,m6⟩
  ·congr 1
   cases hq:(kk.keep n (t.k.ep+1) s).1
   rw [hq] at m2 m3 m4
   dsimp only at m2 m3 m4 ⊢
   rw [m2,m3,m4,k2]
   congr 1
   omega
  ·have:=m5
   rw [k2] at this
   rw [show t.k.num+2=t.k.num+1+1 by omega]
   exact this
 ·unfold Tg.next
  rw [hqi.isReady,if_pos (by simp; omega),hqi.ready]
 ·unfold Tg.next
  rw [hqi.isReady,if_neg (by simp [hm]),if_pos he,hqi.ready]
theorem next_live (h:TI n S B t) (hB:B+2<1000000000000000) {s:St} (hs:Good s) :
  (2≤(t.g.mem t.k.ep).length→t.k.ep≠1000000→(t.next n s).2=0∧∃ d,(t.next n s).1={ t with k:=⟨d,t.k.num+2,t.k.ep+1,s⟩,g:=t.g.fence (t.k.ep+1),num:=0,wait:=[] }∧KD n d (t.k.num+2) (t.k.ep+1) s∧d.fuse=-1) ∧
  (¬ 2≤(t.g.mem t.k.ep).length→t.next n s=(t,7))∧(2≤(t.g.mem t.k.ep).length→t.k.ep=1000000→t.next n s=(t,6)) :=
 next_core h.kd h.fuse h.qi (by have:=h.kb; omega) hs
theorem TI.nexted (h:TI n S B t) {d:Dk} {s:St} {b:Bl} (hm:2≤(t.g.mem t.k.ep).length) (hd:KD n d (t.k.num+2) (t.k.ep+1) s) (hf:d.fuse=-1) (hb:b.ok) :
  TI n S (B+2) { t with k:=⟨d,t.k.num+2,t.k.ep+1,s⟩,g:=t.g.fence (t.k.ep+1),num:=0,wait:=[],b:=b }:=by
 have hkb:=h.kb
 have heb:=h.eb
 have hn0:=h.n0
 have ht0:=h.t0
 refine ⟨hd,hf,by show t.k.num+2≤_; omega,by show t.k.ep+1≤_; omega,(fence_next h.qi hm).1,hb,⟨by show (0:Int)≤0; omega,by show (0:Int)≤_; omega⟩,⟨ht0.1,by show t.tag≤_; omega⟩,h.fl,fun m hm=>?_,by simp,(fun w hw=>by cases hw),List.Pairwise.nil,h.dn,h.fa,h.al.fence h.fa.z _,fun x hx=>?_⟩
 ·obtain ⟨a,b,c,d,e,f,g,i⟩:=h.msg m hm
  exact ⟨a,b,c,d,by show m.c.e≤t.k.ep+1; omega,f,g,i⟩
 ·left
  show x.e<t.k.ep+1
  rcases h.sb x hx with hx | hx <;> omega
theorem TI.kept (h:TI n S B t) (hB:B+2<1000000000000000) {s:St} (hs:Good s):(t.keep n t.k.ep s).2=0∧∃ d,(t.keep n t.k.ep s).1={ t with k:=⟨d,t.k.num+1,t.k.ep,s⟩ }∧KD n d (t.k.num+1) t.k.ep s∧d.fuse=-1:=by
 have hkb:=h.kb
 obtain ⟨k1,k2,k3,k4,k5,k6⟩:=keep_live h.kd h.fuse (by omega) (ep:=t.k.ep) (s:=s) h.e1 hs
 unfold Tg.keep
 dsimp only
 refine ⟨k1,_,?_,k5,k6⟩
 congr 1
 cases hq:(t.k.keep n t.k.ep s).1
 rw [hq] at k2 k3 k4
 dsimp only at k2 k3 k4 ⊢
 rw [k2,k3,k4]
theorem TI.setK (h:TI n S B t) {d:Dk} {s:St} {b:Bl} (hd:KD n d (t.k.num+1) t.k.ep s) (hf:d.fuse=-1) (hb:b.ok):TI n S (B+2) { t with k:=⟨d,t.k.num+1,t.k.ep,s⟩,b:=b }:=by
 have hkb:=h.kb
 have heb:=h.eb
 have hn0:=h.n0
 have ht0:=h.t0
 exact ⟨hd,hf,by show t.k.num+1≤_; omega,by show t.k.ep≤_; omega,h.qi,hb,⟨hn0.1,by show t.num≤_; omega⟩,⟨ht0.1,by show t.tag≤_; omega⟩,h.fl,h.msg,h.wl,h.wt,h.ws,h.dn,h.fa,h.al,h.sb⟩
theorem Bl.ok.set {b:Bl} (h:b.ok) (k:Int) {l:List Int} (hl:l.length≤5) (hn:∀ x∈l,1≤x∧x≤4):(b.set k l).ok:=by
 have key:∀ j,(b.set k l).get j=l∨(b.set k l).get j=b.get j:=by
  intro j
  unfold Bl.set Bl.get
  repeat' split
  all_goals first | exact .inl rfl | exact .inr rfl
 constructor
 ·intro j; rcases key j with e | e <;> rw [e]
  ·exact hl
  ·exact h.len j
 ·intro j x hx
  rcases key j with e | e <;> rw [e] at hx
  ·exact hn x hx
  ·exact h.num j x hx
theorem addL_mem {l:List Int} {x y:Int} (h:y∈addL l x):y∈l∨y=x:=by
 unfold addL at h
 split at h
 ·exact .inl h
 ·have:=List.mem_of_mem_drop h
  simpa using this
theorem Bl.ok.add {b:Bl} (h:b.ok) {x:Int × Int} (hx:1≤x.2∧x.2≤4):(b.add x).ok :=
 h.set _ (addL_len _ _ (h.len _)) (fun y hy=>by
  rcases addL_mem hy with e | e
  ·exact h.num _ y e
  ·omega)
theorem Bl.ok.adds:∀ {l:List (Int × Int)} {b:Bl},b.ok→(∀ x∈l,1≤x.2∧x.2≤4)→(b.adds l).ok
 | [],_,h,_=>h
 | x :: l,b,h,hl=>Bl.ok.adds (b:=b.add x) (h.add (hl x (by simp))) (fun y hy=>hl y (by simp [hy]))
theorem Bl.pow_ok:Bl.pow.ok:=by
 have key:∀ j,Bl.pow.get j=[4]:=by
  intro j
  unfold Bl.get Bl.pow
  repeat' split
  all_goals rfl
 exact ⟨fun j=>by rw [key]; decide,fun j x hx=>by rw [key] at hx; simp at hx; omega⟩
theorem Bl.zero_ok:Bl.zero.ok:=by
 have key:∀ j,Bl.zero.get j=[]:=by
  intro j
  unfold Bl.get Bl.zero
  repeat' split
  all_goals rfl
 exact ⟨fun j=>by rw [key]; decide,fun j x hx=>by rw [key] at hx; cases hx⟩
theorem pdo_what (s:St) (c:Cmd):∀ x∈(pdo s c).2.1,1≤x.2∧x.2≤3:=by
 have w:∀ {l:List Int} {k:Int},1≤k∧k≤3→∀ x∈toldL l k,1≤x.2∧x.2≤3:=fun hk x hx=>by
  unfold toldL at hx
  obtain ⟨y,-,rfl⟩:=List.mem_map.1 hx
  exact hk
 have nil:∀ x∈([]:List (Int × Int)),1≤x.2∧x.2≤3:=fun x hx=>by cases hx
 have app:∀ {l m:List (Int × Int)},(∀ x∈l,1≤x.2∧x.2≤3)→(∀ x∈m,1≤x.2∧x.2≤3)→∀ x∈l ++ m,1≤x.2∧x.2≤3:=fun h g x hx=>by
  rcases List.mem_append.1 hx with e | e
  ·exact h x e
  ·exact g x e
 have reg:∀ x∈(pregister s c).2,1≤x.2∧x.2≤3:=by
  unfold pregister
  dsimp only
  repeat' split
  all_goals first | exact nil | exact w (k:=2) (by omega)
 have rel:∀ x∈(prelease s c).2.1,1≤x.2∧x.2≤3:=by
  unfold prelease
  repeat' split
  all_goals first | exact nil | exact w (k:=2) (by omega)
 have pre:∀ x∈(ppreempt s c).2.1,1≤x.2∧x.2≤3:=by
  unfold ppreempt
  dsimp only
  repeat' split
  all_goals first | exact nil | exact w (k:=1) (by omega) | exact app (w (k:=1) (by omega)) (w (k:=2) (by omega)) | exact app (w (k:=1) (by omega)) nil
 have acts:∀ x∈(pacts s c).2.1,1≤x.2∧x.2≤3:=by
  unfold pacts
  repeat' split
  all_goals first | exact nil | exact reg | exact rel | exact pre | exact w (k:=3) (by omega)
 unfold pdo
 repeat' split
 all_goals first | exact nil | exact acts
end
end Go.Proofs.YtajegiifabfcjaaGreatDoor

namespace Go.Proofs.YtajegiifabfcjaaGreatDoor
open Go.RowKit
section
variable {n:Nat} {S:Cel→Prop} {B:Int} {t:Tg}
inductive Ordered (n:Nat) (t:Tg) (c:Cmd):Tg→Int→Prop where
 | bad {f:Int} (hf:f≠0) (h:(pdo t.k.s c).2.2=f):Ordered n t c t f
 | less (d:Dk) (l:lessB pmay t.k.s (pdo t.k.s c).1=true) (h0:(pdo t.k.s c).2.2=0) (hm:2≤(t.g.mem t.k.ep).length) (hd:KD n d (t.k.num+2) (t.k.ep+1) (pdo t.k.s c).1) (hf:d.fuse=-1) :
   Ordered n t c { t with k:=⟨d,t.k.num+2,t.k.ep+1,(pdo t.k.s c).1⟩,g:=t.g.fence (t.k.ep+1),num:=0,wait:=[],b:=t.b.adds (pdo t.k.s c).2.1 } 0
 | busy (f:Int) (hf:f=7∨f=6) (hb:f=7→¬ 2≤(t.g.mem t.k.ep).length) (h6:f=6→t.k.ep=1000000) (l:lessB pmay t.k.s (pdo t.k.s c).1=true):Ordered n t c t f
 | more (d:Dk) (l:lessB pmay t.k.s (pdo t.k.s c).1=false) (h0:(pdo t.k.s c).2.2=0) (hd:KD n d (t.k.num+1) t.k.ep (pdo t.k.s c).1) (hf:d.fuse=-1) :
   Ordered n t c { t with k:=⟨d,t.k.num+1,t.k.ep,(pdo t.k.s c).1⟩,b:=t.b.adds (pdo t.k.s c).2.1 } 0
theorem pdo_good {s:St} (g:Good s) {c:Cmd} (hc:CmdOk c) (h:(pdo s c).2.2=0):Good (pdo s c).1:=by
 refine (do_order g hc (r:=(pdo s c).1) (lt:=(pdo s c).2.1) ?_).1
 rw [← h]
theorem order_live (h:TI n S B t) (hB:B+2<1000000000000000) {c:Cmd} (hc:CmdOk c):Ordered n t c (t.order n c).1 (t.order n c).2:=by
 unfold Tg.order
 by_cases h0:(pdo t.k.s c).2.2=0
 ·rw [if_neg (by simp [h0])]
  have hg:=pdo_good h.good hc h0
  dsimp only
  by_cases hl:lessB pmay t.k.s (pdo t.k.s c).1=true
  ·rw [if_pos hl]
   obtain ⟨n1,n2,n3⟩:=next_live h hB hg
   by_cases hm:2≤(t.g.mem t.k.ep).length
   ·by_cases he:t.k.ep=1000000
    ·rw [n3 hm he]
     exact .busy 6 (.inr rfl) (fun e=>by cases e) (fun _=>he) hl
    ·obtain ⟨e1,d,e2,e3,e4⟩:=n1 hm he
     rw [if_neg (by simp [e1]),e2]
     exact .less d hl h0 hm e3 e4
   ·rw [n2 hm]
    exact .busy 7 (.inl rfl) (fun _=>hm) (fun e=>by cases e) hl
  ·rw [if_neg hl]
   obtain ⟨e1,d,e2,e3,e4⟩:=h.kept hB hg
   rw [if_neg (by simp [e1]),e2]
   exact .more d (by simpa using hl) h0 e3 e4
 ·rw [if_pos h0]
  exact .bad h0 rfl
theorem Ordered.ti (h:TI n S B t) {c:Cmd} {t':Tg} {f:Int} (o:Ordered n t c t' f):TI n S (B+2) t':=by
 have hb:∀ x∈(pdo t.k.s c).2.1,1≤x.2∧x.2≤4:=fun x hx=>by have:=pdo_what t.k.s c x hx; omega
 cases o with
 | bad=>exact h.mono (by omega)
 | less d l h0 hm hd hf=>exact h.nexted hm hd hf (h.box.adds hb)
 | busy=>exact h.mono (by omega)
 | more d l h0 hd hf=>exact h.setK hd hf (h.box.adds hb)
theorem TI.setG (h:TI n S B t) {g:Gp} (hg:QI g t.k.ep) (ha:AllC S g):TI n S B { t with g:=g } :=
 ⟨h.kd,h.fuse,h.kb,h.eb,hg,h.box,h.n0,h.t0,h.fl,h.msg,h.wl,h.wt,h.ws,h.dn,h.fa,ha,h.sb⟩
theorem TI.setB (h:TI n S B t) {b:Bl} (hb:b.ok):TI n S B { t with b:=b } :=
 ⟨h.kd,h.fuse,h.kb,h.eb,h.qi,hb,h.n0,h.t0,h.fl,h.msg,h.wl,h.wt,h.ws,h.dn,h.fa,h.al,h.sb⟩
theorem TI.setFly (h:TI n S B t) {l:List Ms} (hl:l.length≤40) (hm:∀ m∈l,m∈t.fly):TI n S B { t with fly:=l } :=
 ⟨h.kd,h.fuse,h.kb,h.eb,h.qi,h.box,h.n0,h.t0,hl,fun m hx=>h.msg m (hm m hx),h.wl,h.wt,h.ws,h.dn,h.fa,h.al,h.sb⟩
theorem tread_live (h:TI n S B t) (k:Nat) :
  (¬ 2≤(t.g.mem t.k.ep).length→t.read k=(t,⟨#[]⟩,7)) ∧
  (2≤(t.g.mem t.k.ep).length→t.read k=({ t with g:=t.g.read t.k.ep k },(bestL k (t.g.frm t.k.ep)).d,0)):=by
 refine ⟨fun hm=>?_,fun hm=>?_⟩
 ·unfold Tg.read
  rw [h.isReady,if_pos (by simp; omega),h.ready]
 ·unfold Tg.read
  rw [h.isReady,if_neg (by simp [hm]),h.ready,show t.g.readC t.k.ep k=bestL k (t.g.frm t.k.ep) from if_pos hm]
theorem TI.read (h:TI n S B t) (k:Nat):TI n S B (t.read k).1:=by
 by_cases hm:2≤(t.g.mem t.k.ep).length
 ·rw [(tread_live h k).2 hm]
  exact h.setG (h.qi.read k) (h.al.read h.fa.z _ _)
 ·rw [(tread_live h k).1 hm]
  exact h
theorem TI.write (h:TI n S B t) {c:Cmd} (ha:0≤c.at'∧c.at'<8):∃ S',(∀ x,S x→S' x)∧TI n S' (B+1) (t.write c).1∧(t.write c).1.k=t.k∧(t.write c).1.g=t.g∧(t.write c).1.b=t.b:=by
 unfold Tg.write
 split
 ·exact ⟨S,fun _ hx=>hx,h.mono (by omega),rfl,rfl,rfl⟩
 ·rename_i hc
  have hn0:=h.n0
  have ht0:=h.t0
  have hkb:=h.kb
  have heb:=h.eb
  have hwl:=h.wl
  obtain ⟨x,hx⟩:∃ x:Cel,x=⟨t.k.ep,t.num+1,c.data⟩:=⟨_,rfl⟩
  have he:=h.e1
  have hnew:¬ S x:=fun hS=>by
   rcases h.sb x hS with e | e <;> subst hx <;> dsimp only at e <;> omega
  refine ⟨fun y=>S y∨y=x,fun _ hy=>.inl hy,⟨h.kd,h.fuse,by show t.k.num≤_; omega,by show t.k.ep≤_; omega,h.qi,h.box,?_,?_,?_,?_,?_,?_,?_,?_,?_,?_,?_⟩,rfl,rfl,rfl⟩
  ·show 0≤t.num+1∧t.num+1≤_; omega
  ·show 0≤t.tag+1∧t.tag+1≤_; omega
  ·simp only [List.length_append,List.length_cons,List.length_nil]; omega
  ·intro m hm
   rcases List.mem_append.1 hm with e | e
   ·obtain ⟨a1,a2,a3,a4,a5,a6,a7,a8⟩:=h.msg m e
    exact ⟨a1,a2,a3,a4,a5,a6,by show m.tag≤t.tag+1; omega,.inl a8⟩
   ·simp only [List.mem_cons,List.mem_nil_iff,or_false] at e
    have key:∀ i:Int,0≤i∧i<3→m=t.msg c i→0≤m.tt∧m.tt<3∧0≤m.at'∧m.at'<8∧m.c.e≤t.k.ep∧1≤m.tag∧m.tag≤t.tag+1∧(S m.c∨m.c=x):=by
     rintro i hi rfl
     exact ⟨hi.1,hi.2,ha.1,ha.2,by show t.k.ep≤t.k.ep; omega,by show 1≤t.tag+1; omega,by show t.tag+1≤t.tag+1; omega,.inr hx.symm⟩
    rcases e with e | e | e
    ·exact key 0 (by omega) e
    ·exact key 1 (by omega) e
    ·exact key 2 (by omega) e
  ·simp only [List.length_append,List.length_cons,List.length_nil]; omega
  ·intro w hw
   rcases List.mem_append.1 hw with e | e
   ·have:=h.wt w e; exact ⟨this.1,by show w.tag≤t.tag+1; omega,this.2.2⟩
   ·simp only [List.mem_singleton] at e
    subst e
    exact ⟨by show 1≤t.tag+1; omega,by show t.tag+1≤t.tag+1; omega,by simp⟩
  ·rw [List.pairwise_append]
   refine ⟨h.ws,by simp,fun a hA b hb=>?_⟩
   simp only [List.mem_singleton] at hb
   subst hb
   have:=h.wt a hA
   show a.tag<t.tag+1
   omega
  ·intro y hy
   have:=h.dn y hy
   show 1≤y∧y≤t.tag+1
   omega
  ·refine ⟨.inl h.fa.z,?_⟩
   rintro a b (hA | rfl) (hb | rfl) e1 e2
   ·exact h.fa.uni a b hA hb e1 e2
   ·subst hx; rcases h.sb a hA with e | e <;> dsimp only at e1 e2 <;> omega
   ·subst hx; rcases h.sb b hb with e | e <;> dsimp only at e1 e2 <;> omega
   ·rfl
  ·exact h.al.mono fun y hy=>.inl hy
  ·rintro y (hy | rfl)
   ·rcases h.sb y hy with e | e
    ·exact .inl e
    ·right; show y.e=t.k.ep∧y.n≤t.num+1; omega
   ·right; subst hx; show t.k.ep=t.k.ep∧t.num+1≤t.num+1; omega
theorem fault_zero {c:Cmd} (h:cmdFault c=0):CmdOk c∧(7≤c.op→0≤c.at'∧c.at'<8)∧c.data.size≤8∧c.want.size≤8:=by
 refine ⟨cmd_ok h,?_⟩
 unfold cmdFault at h
 split at h
 ·cases h
 ·split at h
  ·cases h
  ·obtain ⟨k1,k2,-,h⟩:=stage_zero h
   obtain ⟨n1,n2,-,h⟩:=stage_zero h
   obtain ⟨a1,a2,-,h⟩:=stage_zero h
   unfold cfP at h
   split at h
   ·cases h
   ·unfold cfL at h
    split at h
    ·cases h
    ·exact ⟨fun _=>⟨a1,by omega⟩,by omega,by omega⟩
theorem TI.ask (h:TI n S B t) (hB:B+2<1000000000000000) (c:Cmd):∃ S',(∀ x,S x→S' x)∧TI n S' (B+2) (t.ask n c).1:=by
 have id:∃ S',(∀ x,S x→S' x)∧TI n S' (B+2) t:=⟨S,fun _ hx=>hx,h.mono (by omega)⟩
 unfold Tg.ask
 split
 ·exact id
 rename_i hf
 have hf0:cmdFault c=0:=by simpa using hf
 obtain ⟨hc,hat,-,-⟩:=fault_zero hf0
 split
 ·rename_i ht
  refine ⟨S,fun _ hx=>hx,TI.mono (B:=B) ?_ (by omega)⟩
  refine h.setB (h.box.set _ ?_ ?_)
  ·have:=h.box.len c.who; simp; omega
  ·exact fun x hx=>h.box.num _ x (List.mem_of_mem_tail hx)
 split
 ·exact ⟨S,fun _ hx=>hx,(order_live h hB hc).ti h⟩
 rename_i h6
 split
 ·exact id
 split
 ·exact ⟨S,fun _ hx=>hx,(h.read _).mono (by omega)⟩
 split
 ·rw [h.ready]; exact id
 have wr:∀ {u:Tg},TI n S B u→∃ S',(∀ x,S x→S' x)∧TI n S' (B+2) (u.doWrite c).1:=fun hu=>by
  obtain ⟨S',h1,h2,-⟩:=hu.write (c:=c) (hat (by omega))
  exact ⟨S',h1,h2.mono (by omega)⟩
 split
 ·rw [h.ready]
  unfold Tg.doComp
  dsimp only
  split
  ·exact ⟨S,fun _ hx=>hx,(h.read _).mono (by omega)⟩
  ·exact wr (h.read _)
 ·rw [h.ready]; exact wr h
theorem came_same (t:Tg) (m:Ms):(t.came m).k=t.k∧(t.came m).g=t.g∧(t.came m).b=t.b∧(t.came m).num=t.num∧(t.came m).tag=t.tag∧(t.came m).fly=t.fly:=by
 unfold Tg.came
 split
 ·exact ⟨rfl,rfl,rfl,rfl,rfl,rfl⟩
 ·split
  ·exact ⟨rfl,rfl,rfl,rfl,rfl,rfl⟩
  ·exact ⟨rfl,rfl,rfl,rfl,rfl,rfl⟩
theorem TI.came (h:TI n S B t) {m:Ms} (hm:1≤m.tag∧m.tag≤t.tag):TI n S B (t.came m):=by
 unfold Tg.came
 split
 ·exact h
 rename_i w hw
 have hwm:=List.mem_of_find?_eq_some hw
 have hwt:w.tag=m.tag:=by simpa using List.find?_some hw
 split
 ·refine ⟨h.kd,h.fuse,h.kb,h.eb,h.qi,h.box,h.n0,h.t0,h.fl,h.msg,?_,fun x hx=>h.wt x (List.mem_filter.1 hx).1,h.ws.filter _,?_,h.fa,h.al,h.sb⟩
  ·have:=List.length_filter_le (fun w=>decide (w.tag≠m.tag)) t.wait
   have:=h.wl
   dsimp only
   omega
  ·intro x hx
   dsimp only at hx
   split at hx
   ·exact h.dn x hx
   ·rcases List.mem_append.1 hx with e | e
    ·exact h.dn x e
    ·simp only [List.mem_singleton] at e; subst e; exact hm
 ·rename_i hlen
  refine ⟨h.kd,h.fuse,h.kb,h.eb,h.qi,h.box,h.n0,h.t0,h.fl,h.msg,by simpa using h.wl,fun x hx=>?_,?_,h.dn,h.fa,h.al,h.sb⟩
  ·dsimp only at hx
   obtain ⟨y,hy,rfl⟩:=List.mem_map.1 hx
   have hyw:=h.wt y hy
   split
   ·rename_i e
    have hyy:y=w:=by
     have hp:=h.ws
     by_cases hne:y=w
     ·exact hne
     ·rcases List.getElem_of_mem hy with ⟨i,hi,rfl⟩
      rcases List.getElem_of_mem hwm with ⟨j,hj,rfl⟩
      rw [List.pairwise_iff_getElem] at hp
      rcases Nat.lt_trichotomy i j with q | q | q
      ·have:=hp i j hi hj q; omega
      ·subst q; exact absurd rfl hne
      ·have:=hp j i hj hi q; omega
    subst hyy
    exact ⟨hyw.1,hyw.2.1,by omega⟩
   ·exact hyw
  ·dsimp only
   rw [List.pairwise_map]
   refine h.ws.imp fun {a b} hab=>?_
   have e:∀ a:Wt,(if a.tag=m.tag then a.put m.tt else a).tag=a.tag:=fun a=>by split <;> rfl
   rw [e,e]; exact hab
theorem fly_get {l:List Ms} {i:Int} (h:¬ (i<0∨(l.length:Int)≤i)):l.getD i.toNat ⟨0,0,Cel.zero,0⟩∈l:=by
 have hi:i.toNat<l.length:=by omega
 rw [List.getD_eq_getElem?_getD,List.getElem?_eq_getElem hi]
 exact List.getElem_mem hi
theorem TI.gone (h:TI n S B t) (i:Nat):TI n S B { t with fly:=t.fly.eraseIdx i } :=
 h.setFly (by have:=h.fl; have:=List.length_eraseIdx_le t.fly i; omega) (fun m hm=>List.mem_of_mem_eraseIdx hm)
theorem TI.deliver (h:TI n S B t) (i:Int) (stays:Bool):TI n S B (t.deliver i stays).1:=by
 unfold Tg.deliver
 split
 ·exact h
 rename_i hi
 have hm:=h.msg _ (fly_get hi)
 obtain ⟨m,hme⟩:∃ m,m=t.fly.getD i.toNat ⟨0,0,Cel.zero,0⟩:=⟨_,rfl⟩
 rw [← hme] at hm ⊢
 dsimp only
 have h1:TI n S B { t with fly:=if stays then t.fly else t.fly.eraseIdx i.toNat,g:=t.g.deliver m.tt.toNat m.at'.toNat m.c }:=by
  have h0:TI n S B { t with fly:=if stays then t.fly else t.fly.eraseIdx i.toNat }:=by
   cases stays
   ·exact h.gone _
   ·exact h
  exact h0.setG (h.qi.deliver (by omega) _) (h.al.deliver h.fa.z _ _ hm.2.2.2.2.2.2.2)
 split
 ·exact h1.came ⟨hm.2.2.2.2.2.1,hm.2.2.2.2.2.2.1⟩
 ·exact h1
theorem TI.lose (h:TI n S B t) (i:Int):TI n S B (t.lose i).1:=by
 unfold Tg.lose
 split
 ·exact h
 ·exact h.gone _
theorem TI.up (h:TI n S B t) (i:Int) (b:Bool):TI n S B (t.up i b).1:=by
 unfold Tg.up
 split
 ·exact h
 ·exact h.setG (h.qi.setU _ _) (h.al.setU _ _)
theorem TI.sync (h:TI n S B t) (i:Int):TI n S B (t.sync i).1:=by
 unfold Tg.sync
 split
 ·exact h
 split
 ·exact h.setG (h.qi.sync (by omega)) (h.al.sync h.fa.z _ _)
 ·exact h
theorem Good.lost {s:St} (h:Good s):Good s.lost:=by
 unfold St.lost
 split
 ·exact ⟨by dsimp only; omega,h.bounds,h.sorted,h.zero,h.typ,h.all,h.one⟩
 ·exact (good_iff _).1 rfl
theorem TI.power (h:TI n S B t) (hB:B+2<1000000000000000):TI n S (B+2) (t.power n).1:=by
 obtain ⟨n1,n2,n3⟩:=next_live h hB h.good.lost
 unfold Tg.power
 dsimp only
 by_cases hm:2≤(t.g.mem t.k.ep).length
 ·by_cases he:t.k.ep=1000000
  ·rw [n3 hm he]; exact h.mono (by omega)
  ·obtain ⟨e1,d,e2,e3,e4⟩:=n1 hm he
   rw [if_neg (by simp [e1]),e2]
   exact h.nexted hm e3 e4 Bl.pow_ok
 ·rw [n2 hm]; exact h.mono (by omega)
theorem new_live (h:TI n S B t) (hB:B+2<1000000000000000) :
  (2≤(t.g.mem t.k.ep).length→t.k.ep≠1000000→(Tg.new n t.k t.g).2=0∧∃ d,(Tg.new n t.k t.g).1=Tg.start ⟨d,t.k.num+2,t.k.ep+1,t.k.s⟩ (t.g.fence (t.k.ep+1))∧KD n d (t.k.num+2) (t.k.ep+1) t.k.s∧d.fuse=-1) ∧
  (¬ 2≤(t.g.mem t.k.ep).length→(Tg.new n t.k t.g).2=7)∧(2≤(t.g.mem t.k.ep).length→t.k.ep=1000000→(Tg.new n t.k t.g).2=6):=by
 obtain ⟨n1,n2,n3⟩:=next_core (n:=n) (t:=Tg.start t.k t.g) h.kd h.fuse h.qi (by have:=h.kb; show t.k.num+2<_; omega) h.good
 refine ⟨fun hm he=>n1 hm he,fun hm=>?_,fun hm he=>?_⟩
 ·unfold Tg.new; rw [n2 hm]
 ·unfold Tg.new; rw [n3 hm he]
theorem TI.new (h:TI n S B t) {d:Dk} (hm:2≤(t.g.mem t.k.ep).length) (hd:KD n d (t.k.num+2) (t.k.ep+1) t.k.s) (hf:d.fuse=-1):TI n S (B+2) (Tg.start ⟨d,t.k.num+2,t.k.ep+1,t.k.s⟩ (t.g.fence (t.k.ep+1))):=by
 have hkb:=h.kb
 have heb:=h.eb
 have hn0:=h.n0
 refine ⟨hd,hf,by show t.k.num+2≤_; omega,by show t.k.ep+1≤_; omega,(fence_next h.qi hm).1,Bl.zero_ok,⟨by show (0:Int)≤0; omega,by show (0:Int)≤B+2; omega⟩,⟨by show (0:Int)≤0; omega,by show (0:Int)≤B+2; omega⟩,by simp [Tg.start],(fun m hm=>by cases hm),by simp [Tg.start],(fun m hm=>by cases hm),List.Pairwise.nil,(fun m hm=>by cases hm),h.fa,h.al.fence h.fa.z _,fun x hx=>?_⟩
 left
 show x.e<t.k.ep+1
 rcases h.sb x hx with hx | hx <;> omega
end
end Go.Proofs.YtajegiifabfcjaaGreatDoor

namespace Go.Proofs.YtajegiifabfcjaaGreatDoor
open Go.RowKit
section
variable {n:Nat} {S:Cel→Prop} {B:Int} {t:Tg}
inductive Asked (t:Tg) (c:Cmd):Tg→Ans→Prop where
 | no (h:pmay t.k.s c.who (decide (c.op≠7))=false):Asked t c t (Ans.bad 4)
 | busy (h:pmay t.k.s c.who (decide (c.op≠7))=true) (hm:¬ 2≤(t.g.mem t.k.ep).length):Asked t c t (Ans.bad 7)
 | read (h:pmay t.k.s c.who (decide (c.op≠7))=true) (hm:2≤(t.g.mem t.k.ep).length) (ho:c.op=7) :
   Asked t c { t with g:=t.g.read t.k.ep c.at'.toNat } ⟨(bestL c.at'.toNat (t.g.frm t.k.ep)).d,0,0,0⟩
 | refused (h:pmay t.k.s c.who (decide (c.op≠7))=true) (hm:2≤(t.g.mem t.k.ep).length) (ho:c.op=9) (f:Int) (hf:(t.busy c.at'=true∧f=7)∨(t.busy c.at'=false∧(bestL c.at'.toNat (t.g.frm t.k.ep)).d≠c.want∧f=9)) :
   Asked t c { t with g:=t.g.read t.k.ep c.at'.toNat } (Ans.bad f)
 | full (h:pmay t.k.s c.who (decide (c.op≠7))=true) (hm:2≤(t.g.mem t.k.ep).length) (u:Tg) (hu:(c.op=8∧u=t)∨(c.op=9∧u={ t with g:=t.g.read t.k.ep c.at'.toNat }∧t.busy c.at'=false∧(bestL c.at'.toNat (t.g.frm t.k.ep)).d=c.want)):Asked t c u (Ans.bad 6)
 | write (h:pmay t.k.s c.who (decide (c.op≠7))=true) (hm:2≤(t.g.mem t.k.ep).length) (u:Tg) (hu:(c.op=8∧u=t)∨(c.op=9∧u={ t with g:=t.g.read t.k.ep c.at'.toNat }∧t.busy c.at'=false∧(bestL c.at'.toNat (t.g.frm t.k.ep)).d=c.want)) (hl:t.fly.length+3≤40) (hw:t.wait.length≠6) :
   Asked t c { u with num:=t.num+1,tag:=t.tag+1,fly:=t.fly ++ [t.msg c 0,t.msg c 1,t.msg c 2],wait:=t.wait ++ [⟨t.tag+1,c.who,t.num+1,[]⟩] } ⟨⟨#[]⟩,t.tag+1,0,0⟩
theorem busy_g (t:Tg) (g:Gp) (a:Int):({ t with g:=g }:Tg).busy a=t.busy a:=rfl
theorem asked_live (h:TI n S B t) {c:Cmd} (hf:cmdFault c=0) (ho:7≤c.op) (hb:t.b.get c.who=[]):Asked t c (t.ask n c).1 (t.ask n c).2:=by
 obtain ⟨hc,hat,-,-⟩:=fault_zero hf
 have hop:=hc.op
 unfold Tg.ask
 rw [if_neg (by simp [hf]),if_neg (by rw [hb]; simp [takeN]),if_neg (by omega)]
 by_cases hp:pmay t.k.s c.who (decide (c.op≠7))=false
 ·rw [if_pos hp]; exact .no hp
 rw [if_neg hp]
 have hp':pmay t.k.s c.who (decide (c.op≠7))=true:=by simpa using hp
 have wr:∀ u:Tg,((c.op=8∧u=t)∨(c.op=9∧u={ t with g:=t.g.read t.k.ep c.at'.toNat }∧t.busy c.at'=false∧(bestL c.at'.toNat (t.g.frm t.k.ep)).d=c.want))→2≤(t.g.mem t.k.ep).length→Asked t c (u.doWrite c).1 (u.doWrite c).2:=by
  intro u hu hm
  have e:u.wait=t.wait∧u.fly=t.fly∧u.num=t.num∧u.tag=t.tag∧u.k=t.k:=by
   rcases hu with ⟨-,rfl⟩ | ⟨-,rfl,-⟩ <;> exact ⟨rfl,rfl,rfl,rfl,rfl⟩
  unfold Tg.doWrite Tg.write
  rw [e.1,e.2.1]
  by_cases hc2:t.wait.length=6∨40<t.fly.length+3
  ·rw [if_pos hc2]
   exact .full hp' hm u hu
  ·rw [if_neg hc2]
   have em:∀ i,u.msg c i=t.msg c i:=fun i=>by unfold Tg.msg; rw [e.2.2.1,e.2.2.2.1,e.2.2.2.2]
   rw [em,em,em,e.2.2.1,e.2.2.2.1]
   exact .write hp' hm u hu (by omega) (by omega)
 by_cases h7:c.op=7
 ·rw [if_pos h7]
  by_cases hm:2≤(t.g.mem t.k.ep).length
  ·rw [(tread_live h _).2 hm]
   exact .read hp' hm h7
  ·rw [(tread_live h _).1 hm]
   exact .busy hp' hm
 rw [if_neg h7,h.isReady,h.ready]
 by_cases hm:2≤(t.g.mem t.k.ep).length
 ·rw [if_neg (by simp [hm])]
  by_cases h9:c.op=9
  ·rw [if_pos h9]
   unfold Tg.doComp
   dsimp only
   rw [(tread_live h _).2 hm]
   dsimp only
   rw [busy_g]
   by_cases hr:(0:Int)≠0∨(bestL c.at'.toNat (t.g.frm t.k.ep)).d≠c.want∨t.busy c.at'=true
   ·rw [if_pos hr]
    have e:({ t with g:=t.g.read t.k.ep c.at'.toNat }:Tg).refuse 0 c.at'=if t.busy c.at' then 7 else 9:=by
     unfold Tg.refuse
     rw [if_neg (by simp)]
     rfl
    rw [e]
    refine .refused hp' hm h9 _ ?_
    cases hbs:t.busy c.at'
    ·refine .inr ⟨rfl,?_,by simp⟩
     rcases hr with e | e | e
     ·exact absurd rfl e
     ·exact e
     ·rw [hbs] at e; cases e
    ·exact .inl ⟨rfl,by simp⟩
   ·rw [if_neg hr]
    have h2:t.busy c.at'=false:=by
     cases hbs:t.busy c.at'
     ·rfl
     ·exact absurd (.inr (.inr hbs)) hr
    have h3:(bestL c.at'.toNat (t.g.frm t.k.ep)).d=c.want:=by
     by_cases e:(bestL c.at'.toNat (t.g.frm t.k.ep)).d=c.want
     ·exact e
     ·exact absurd (.inr (.inl e)) hr
    exact wr _ (.inr ⟨h9,rfl,h2,h3⟩) hm
  ·rw [if_neg h9]
   exact wr _ (.inl ⟨by omega,rfl⟩) hm
 ·rw [if_pos (by simp; omega)]
  exact .busy hp' hm
def Tg.askN (n:Nat) (t:Tg) (c:Cmd):Nat→Tg × ByteArray × Int × Int
 | 0=>(t,⟨#[]⟩,0,7)
 | k+1=>if (t.ask n c).2.what=0 then ((t.ask n c).1,(t.ask n c).2.data,(t.ask n c).2.tag,(t.ask n c).2.err) else Tg.askN n (t.ask n c).1 c k
def Tg.deaf (t:Tg) (who:Int):Tg:={ t with b:=t.b.set who [] }
theorem Bl.set_get (b:Bl) (k:Int):b.set k (b.get k)=b:=by
 unfold Bl.set Bl.get
 repeat' split
 all_goals rfl
theorem Bl.set_set (b:Bl) (k:Int) (l m:List Int):(b.set k l).set k m=b.set k m:=by
 unfold Bl.set
 repeat' split
 all_goals rfl
theorem Bl.get_set_self (b:Bl) (k:Int) (l:List Int):(b.set k l).get k=l:=by
 unfold Bl.set Bl.get
 repeat' split
 all_goals first | rfl | (exfalso; omega)
theorem doWrite_what (u:Tg) (c:Cmd):(u.doWrite c).2.what=0:=by unfold Tg.doWrite; dsimp only
theorem doComp_what (u:Tg) (c:Cmd):(u.doComp c).2.what=0:=by
 unfold Tg.doComp
 dsimp only
 split
 ·unfold Ans.bad; dsimp only
 ·exact doWrite_what _ _
theorem bad_what (f:Int):(Ans.bad f).what=0:=by unfold Ans.bad; dsimp only
theorem ask_what {t:Tg} {c:Cmd} (hf:cmdFault c=0) (hb:t.b.get c.who=[]):(t.ask n c).2.what=0:=by
 have h0:¬ 0<takeN ([]:List Int):=by simp [takeN]
 unfold Tg.ask
 rw [if_neg (by simp [hf]),hb,if_neg h0]
 split
 ·exact bad_what _
 split
 ·exact bad_what _
 split
 ·dsimp only
 split
 ·exact bad_what _
 split
 ·exact doComp_what _ _
 ·exact doWrite_what _ _
theorem ask_told {t:Tg} (hbx:t.b.ok) {c:Cmd} (hf:cmdFault c=0) {x:Int} {l:List Int} (hb:t.b.get c.who=x :: l):t.ask n c=({ t with b:=t.b.set c.who l },⟨⟨#[]⟩,0,x,0⟩)∧1≤x∧x≤4:=by
 have hx:=hbx.num c.who x (by rw [hb]; simp)
 unfold Tg.ask
 rw [if_neg (by simp [hf]),hb,if_pos (by show 0<x; omega)]
 exact ⟨rfl,hx⟩
theorem askN_law {t:Tg} (hbx:t.b.ok) {c:Cmd} (hf:cmdFault c=0):∀ k,(t.b.get c.who).length<k→t.askN n c k=(((t.deaf c.who).ask n c).1,((t.deaf c.who).ask n c).2.data,((t.deaf c.who).ask n c).2.tag,((t.deaf c.who).ask n c).2.err)
 | 0,h=>absurd h (by omega)
 | k+1,h=>by
  unfold Tg.askN
  cases hb:t.b.get c.who with
  | nil =>
   have e:t.deaf c.who=t:=by unfold Tg.deaf; rw [← hb,Bl.set_get]
   rw [if_pos (ask_what hf hb),e]
  | cons x l =>
   obtain ⟨e,hx⟩:=ask_told (n:=n) hbx hf hb
   rw [hb] at h
   rw [e]
   rw [if_neg (by show ¬ x=0; omega)]
   have hbx':({ t with b:=t.b.set c.who l }:Tg).b.ok:=hbx.set _ (by have:=hbx.len c.who; rw [hb] at this; simp at this; omega) (fun y hy=>hbx.num c.who y (by rw [hb]; simp [hy]))
   have ih:=askN_law (t:={ t with b:=t.b.set c.who l }) hbx' hf k (by show ((t.b.set c.who l).get c.who).length<k; rw [Bl.get_set_self]; simp at h; omega)
   rw [ih]
   have ed:({ t with b:=t.b.set c.who l }:Tg).deaf c.who=t.deaf c.who:=by unfold Tg.deaf; rw [Bl.set_set]
   rw [ed]
theorem askN_six (h:TI n S B t) {c:Cmd} (hf:cmdFault c=0):t.askN n c 6=(((t.deaf c.who).ask n c).1,((t.deaf c.who).ask n c).2.data,((t.deaf c.who).ask n c).2.tag,((t.deaf c.who).ask n c).2.err) :=
 askN_law h.box hf 6 (by have:=h.box.len c.who; omega)
theorem TI.deaf (h:TI n S B t) (who:Int):TI n S B (t.deaf who):=h.setB (h.box.set _ (by simp) (fun x hx=>by cases hx))
theorem deaf_get (t:Tg) (who:Int):(t.deaf who).b.get who=[]:=Bl.get_set_self _ _ _
theorem asked_six (h:TI n S B t) {c:Cmd} (hf:cmdFault c=0) (ho:7≤c.op):∃ u a,Asked (t.deaf c.who) c u a∧t.askN n c 6=(u,a.data,a.tag,a.err) :=
 ⟨_,_,asked_live (h.deaf _) hf ho (deaf_get _ _),askN_six h hf⟩
theorem ordered_six (h:TI n S B t) (hB:B+2<1000000000000000) {c:Cmd} (hf:cmdFault c=0) (ho:c.op≤6):∃ u f,Ordered n (t.deaf c.who) c u f∧t.askN n c 6=(u,⟨#[]⟩,0,f):=by
 obtain ⟨hc,-⟩:=fault_zero hf
 refine ⟨_,_,order_live (h.deaf _) hB hc,?_⟩
 rw [askN_six h hf]
 unfold Tg.ask
 rw [if_neg (by simp [hf]),deaf_get,if_neg (by simp [takeN]),if_pos ho]
 rfl
def Tg.newest (t:Tg) (at':Nat):Cel:=bestL at' (t.g.frm t.k.ep)
def Tg.most (t:Tg):Bool:=decide (2≤(t.g.mem t.k.ep).length)
theorem mem_read (h:TI n S B t) (k:Nat):(t.g.read t.k.ep k).mem t.k.ep=t.g.mem t.k.ep:=mem_of_fl (flG_read h.qi.ok _ _ 0).2 (fun i _=>(flG_read h.qi.ok _ _ i).1)
theorem newest_read (h:TI n S B t) {k:Nat} (hk:k<8) (hm:2≤(t.g.mem t.k.ep).length):({ t with g:=t.g.read t.k.ep k }:Tg).newest k=t.newest k:=by
 unfold Tg.newest
 dsimp only
 have hS:=(bestF_ge h.fa k (t.g.frm t.k.ep) (fun r hr=>by
  obtain ⟨i,-,-,rfl⟩:=frm_mem hr
  exact valG_S h.al h.fa.z k i)).1
 refine bestF_const (fun r hr=>?_) hS (frm_ne (by rw [mem_read h]; exact hm))
 obtain ⟨i,hi,hM,rfl⟩:=frm_mem hr
 have e:=valG_read h.qi.ok hk hm hi
 unfold valG at e
 rw [e,if_pos]
 have:=isM_iff.1 hM
 rw [(flG_read h.qi.ok _ _ i).1,(flG_read h.qi.ok _ _ i).2] at this
 exact isM_iff.2 this
end
end Go.Proofs.YtajegiifabfcjaaGreatDoor

namespace Go.Proofs.YtajegiifabfcjaaGreatDoor
open Go.RowKit
def sAsk:ByteArray:=⟨#[97,115,107]⟩
def sDeliver:ByteArray:=⟨#[100,101,108,105,118,101,114]⟩
def sLose:ByteArray:=⟨#[108,111,115,101]⟩
def sPower:ByteArray:=⟨#[112,111,119,101,114]⟩
def Tg.anew (n:Nat) (t:Tg):Tg:=if (Tg.new n t.k t.g).2=0 then (Tg.new n t.k t.g).1 else t
def Tg.play (n:Nat) (t:Tg) (x:Ac):Tg :=
 if x.kind=sAsk then (t.ask n x.cm).1
 else if x.kind=sDeliver then (t.deliver x.a (decide (x.b=1))).1
 else if x.kind=sLose then (t.lose x.a).1
 else if x.kind=sUp∨x.kind=sDown then (t.up x.a (decide (x.kind=sUp))).1
 else if x.kind=sSync then (t.sync x.a).1
 else if x.kind=sPower then (t.power n).1
 else t.anew n
section
variable {n:Nat} {S:Cel→Prop} {B:Int} {t:Tg}
theorem TI.anew (h:TI n S B t) (hB:B+2<1000000000000000):TI n S (B+2) (t.anew n):=by
 obtain ⟨n1,n2,n3⟩:=new_live h hB
 unfold Tg.anew
 by_cases hm:2≤(t.g.mem t.k.ep).length
 ·by_cases he:t.k.ep=1000000
  ·rw [n3 hm he,if_neg (by decide)]; exact h.mono (by omega)
  ·obtain ⟨e1,d,e2,e3,e4⟩:=n1 hm he
   rw [if_pos e1,e2]
   exact h.new hm e3 e4
 ·rw [n2 hm,if_neg (by decide)]; exact h.mono (by omega)
theorem TI.play (h:TI n S B t) (hB:B+2<1000000000000000) (x:Ac):∃ S',(∀ x,S x→S' x)∧TI n S' (B+2) (t.play n x):=by
 have sm:∀ {u:Tg},TI n S B u→∃ S',(∀ x,S x→S' x)∧TI n S' (B+2) u:=fun hu=>⟨S,fun _ hx=>hx,hu.mono (by omega)⟩
 unfold Tg.play
 split
 ·exact h.ask hB _
 split
 ·exact sm (h.deliver _ _)
 split
 ·exact sm (h.lose _)
 split
 ·exact sm (h.up _ _)
 split
 ·exact sm (h.sync _)
 split
 ·exact ⟨S,fun _ hx=>hx,h.power hB⟩
 ·exact ⟨S,fun _ hx=>hx,h.anew hB⟩
inductive GMove (t:Tg):Gp→Prop where
 | same:GMove t t.g
 | up (i:Nat) (b:Bool):GMove t (t.g.setU i b)
 | fence (ep:Int):GMove t (t.g.fence ep)
 | read (k:Nat):GMove t (t.g.read t.k.ep k)
 | sync (i:Nat) (hi:i<3):GMove t (t.g.sync t.k.ep i)
 | deliver (m:Ms) (hm:m∈t.fly):GMove t (t.g.deliver m.tt.toNat m.at'.toNat m.c)
theorem Asked.move {c:Cmd} {u:Tg} {a:Ans} (h:Asked t c u a):GMove t u.g:=by
 cases h with
 | no=>exact .same
 | busy=>exact .same
 | read=>exact .read _
 | refused=>exact .read _
 | full h hm u hu =>
  rcases hu with ⟨-,rfl⟩ | ⟨-,rfl,-⟩
  ·exact .same
  ·exact .read _
 | write h hm u hu =>
  rcases hu with ⟨-,rfl⟩ | ⟨-,rfl,-⟩
  ·exact .same
  ·exact .read _
theorem Ordered.move {c:Cmd} {u:Tg} {f:Int} (h:Ordered n t c u f):GMove t u.g:=by
 cases h with
 | bad=>exact .same
 | less=>exact .fence _
 | busy=>exact .same
 | more=>exact .same
inductive Asks (n:Nat) (t:Tg) (c:Cmd):Tg→Ans→Prop where
 | bad (h:cmdFault c≠0):Asks n t c t (Ans.bad (cmdFault c))
 | told (h:cmdFault c=0) (x:Int) (l:List Int) (hb:t.b.get c.who=x :: l) (hx:1≤x∧x≤4):Asks n t c { t with b:=t.b.set c.who l } ⟨⟨#[]⟩,0,x,0⟩
 | order (h:cmdFault c=0) (hb:t.b.get c.who=[]) (ho:c.op≤6) (u:Tg) (f:Int) (o:Ordered n t c u f):Asks n t c u (Ans.bad f)
 | block (h:cmdFault c=0) (hb:t.b.get c.who=[]) (ho:7≤c.op) (u:Tg) (a:Ans) (o:Asked t c u a):Asks n t c u a
theorem asks_live (h:TI n S B t) (hB:B+2<1000000000000000) (c:Cmd):Asks n t c (t.ask n c).1 (t.ask n c).2:=by
 by_cases hf:cmdFault c=0
 ·cases hb:t.b.get c.who with
  | cons x l =>
   obtain ⟨e,hx⟩:=ask_told (n:=n) h.box hf hb
   rw [e]
   exact .told hf x l hb hx
  | nil =>
   by_cases ho:c.op≤6
   ·have o:=order_live h hB (fault_zero hf).1
    have e:t.ask n c=((t.order n c).1,Ans.bad (t.order n c).2):=by
     unfold Tg.ask
     rw [if_neg (by simp [hf]),hb,if_neg (by simp [takeN]),if_pos ho]
    rw [e]
    exact .order hf hb ho _ _ o
   ·exact .block hf hb (by omega) _ _ (asked_live h hf (by omega) hb)
 ·have e:t.ask n c=(t,Ans.bad (cmdFault c)):=by
   unfold Tg.ask
   rw [if_pos hf]
  rw [e]
  exact .bad hf
theorem Asks.move {c:Cmd} {u:Tg} {a:Ans} (h:Asks n t c u a):GMove t u.g:=by
 cases h with
 | bad=>exact .same
 | told=>exact .same
 | order _ _ _ _ _ o=>exact o.move
 | block _ _ _ _ _ o=>exact o.move
theorem deliver_move (t:Tg) (i:Int) (b:Bool):GMove t (t.deliver i b).1.g:=by
 unfold Tg.deliver
 split
 ·exact .same
 rename_i hi
 have hm:=fly_get hi
 generalize t.fly.getD i.toNat ⟨0,0,Cel.zero,0⟩=m at hm
 dsimp only
 split
 ·rw [(came_same _ m).2.1]
  exact .deliver m hm
 ·exact .deliver m hm
theorem power_move (h:TI n S B t) (hB:B+2<1000000000000000):GMove t (t.power n).1.g:=by
 obtain ⟨n1,n2,n3⟩:=next_live h hB h.good.lost
 unfold Tg.power
 dsimp only
 by_cases hm:2≤(t.g.mem t.k.ep).length
 ·by_cases he:t.k.ep=1000000
  ·rw [n3 hm he]; exact .same
  ·obtain ⟨e1,d,e2,-⟩:=n1 hm he
   rw [if_neg (by simp [e1]),e2]
   exact .fence _
 ·rw [n2 hm]; exact .same
theorem anew_move (h:TI n S B t) (hB:B+2<1000000000000000):GMove t (t.anew n).g:=by
 obtain ⟨n1,n2,n3⟩:=new_live h hB
 unfold Tg.anew
 by_cases hm:2≤(t.g.mem t.k.ep).length
 ·by_cases he:t.k.ep=1000000
  ·rw [n3 hm he,if_neg (by decide)]; exact .same
  ·obtain ⟨e1,d,e2,-⟩:=n1 hm he
   rw [if_pos e1,e2]
   exact .fence _
 ·rw [n2 hm,if_neg (by decide)]; exact .same
theorem play_move (h:TI n S B t) (hB:B+2<1000000000000000) (x:Ac):GMove t (t.play n x).g:=by
 unfold Tg.play
 split
 ·exact (asks_live h hB _).move
 split
 ·exact deliver_move _ _ _
 split
 ·unfold Tg.lose; split
  ·exact .same
  ·exact .same
 split
 ·unfold Tg.up; split
  ·exact .same
  ·exact .up _ _
 split
 ·unfold Tg.sync; split
  ·exact .same
  split
  ·exact .sync _ (by omega)
  ·exact .same
 split
 ·exact power_move h hB
 ·exact anew_move h hB
theorem GMove.two (h:TI n S B t) {k:Nat} (hk:k<8) {was:Cel} (h2:Two was k t.g) {g:Gp} (m:GMove t g):Two was k g:=by
 cases m with
 | same=>exact h2
 | up i b=>exact h2
 | fence ep=>exact h2.fence h.qi.ok ep
 | read k'=>exact h2.read h.fa h.al h.qi.ok _ _ hk
 | sync i hi=>exact h2.sync h.fa h.al h.qi.ok _ hi hk
 | deliver m hm =>
  have:=h.msg m hm
  exact h2.deliver h.qi.ok (by omega) (by omega) _
end
end Go.Proofs.YtajegiifabfcjaaGreatDoor
