/-
  TopDone, the plain law: what was done stays, and is read.
-/
import Derived.Test.YtajegiifabfcjaaGreatDoorTTgLaw2
namespace Go.Proofs.YtajegiifabfcjaaGreatDoor
open Go.RowKit
theorem nodup_one {l:List Int} (h:l.length≤1):l.Nodup:=by
 match l,h with
 | [],_=>exact List.nodup_nil
 | [x],_=>exact List.nodup_cons.2 ⟨by simp,List.nodup_nil⟩
section
variable {n:Nat} {S:Cel→Prop} {B:Int} {t:Tg}
inductive NMove (t:Tg):Gp→Prop where
 | same:NMove t t.g
 | up (i:Nat) (b:Bool):NMove t (t.g.setU i b)
 | read (k:Nat):NMove t (t.g.read t.k.ep k)
 | sync (i:Nat) (hi:i<3):NMove t (t.g.sync t.k.ep i)
 | deliver (m:Ms) (hm:m∈t.fly):NMove t (t.g.deliver m.tt.toNat m.at'.toNat m.c)
theorem NMove.move {g:Gp} (m:NMove t g):GMove t g:=by
 cases m with
 | same=>exact .same
 | up i b=>exact .up i b
 | read k=>exact .read k
 | sync i hi=>exact .sync i hi
 | deliver m hm=>exact .deliver m hm
theorem has_nmove (h:TI n S B t) {k:Nat} (hk:k<8) {c:Cel} (u:UB k c t) {g:Gp} (m:NMove t g) {i:Nat} (hi:i<3) (hv:valG t.g k i=c) (hf:flG t.g i=t.k.ep):valG g k i=c∧flG g i=t.k.ep:=by
 cases m with
 | same=>exact ⟨hv,hf⟩
 | up=>exact ⟨hv,hf⟩
 | read k' =>
  refine ⟨?_,by rw [(flG_read h.qi.ok _ _ _).1]; exact hf⟩
  by_cases hm:2≤(t.g.mem t.k.ep).length
  ·by_cases hkk:k=k'
   ·subst hkk
    rw [valG_read h.qi.ok hk hm hi]
    split
    ·rename_i hM
     have hb:=(bestF_ge h.fa k (t.g.frm t.k.ep) (fun r hr=>by
      obtain ⟨i,-,-,rfl⟩:=frm_mem hr
      exact valG_S h.al h.fa.z k i)).2 _ (mem_frm hi hM)
     have e:(t.g.r.getD i Rp.zero).get k=c:=hv
     rw [e] at hb
     exact (hb.antisymm (u.best _)).symm
    ·exact hv
   ·rw [valG_read_other h.qi.ok _ hkk]; exact hv
  ·rw [show t.g.read t.k.ep k'=t.g from if_neg hm]; exact hv
 | sync j hj =>
  have hn:¬ (t.g.syncs t.k.ep j=true∧i=j):=fun e=>by
   have:=(syncs_mem e.1).2.2
   rw [e.2] at hf
   omega
  rw [valG_sync h.qi.ok _ hj hk,if_neg hn,flG_sync h.qi.ok _ hj,if_neg hn]
  exact ⟨hv,hf⟩
 | deliver m hm =>
  have hmm:=h.msg m hm
  refine ⟨?_,by rw [flG_deliver h.qi.ok (by omega)]; exact hf⟩
  rw [valG_deliver_any h.qi.ok (by omega) (by omega)]
  split
  ·rename_i hc
   exfalso
   have hle:=u.fly m hm (by omega)
   have e2:=hc.2.1
   rw [← hc.2.2.1,← hc.2.2.2,hv,hle.not_newer] at e2
   cases e2
  ·exact hv
theorem Asked.nmove {c:Cmd} {u:Tg} {a:Ans} (h:Asked t c u a):NMove t u.g:=by
 cases h with
 | no=>exact .same
 | busy=>exact .same
 | read=>exact .read _
 | refused=>exact .read _
 | full h hm u hu =>
  rcases hu with ⟨-,rfl⟩ | ⟨-,rfl,-⟩
  ·exact .same
  ·exact .read _
 | write h hm u hu =>
  rcases hu with ⟨-,rfl⟩ | ⟨-,rfl,-⟩
  ·exact .same
  ·exact .read _
theorem pre_in (h:TI n S B t) {k:Nat} (hk:k<8) {c:Cel} {tag:Int} (d:DPre k c tag t) {u:Tg} (m:NMove t u.g) (hep:u.k.ep=t.k.ep) (f:Flies k t u) (ht:t.tag≤u.tag) (hd:u.done=t.done) (hw:∀ w∈u.wait,w∈t.wait∨t.tag<w.tag):DPre k c tag u :=
 pre_keep h hk d m.move f ht hd (fun w hx e=>by
  rcases hw w hx with q | q
  ·exact ⟨q,hep⟩
  ·have:=d.le; omega) (fun i hi hv hf _=>has_nmove h hk d.ub m hi hv hf)
theorem pre_ask (h:TI n S B t) {k:Nat} (hk:k<8) {c:Cel} {tag:Int} (d:DPre k c tag t) {cm:Cmd} {u:Tg} {a:Ans} (o:Asks n t cm u a) (hs:Elsewhere k cm):DPre k c tag u:=by
 cases o with
 | bad=>exact d
 | told _ x l hb hx=>exact pre_in h hk d (u:={ t with b:=t.b.set cm.who l }) .same rfl (fly_sub rfl) (Int.le_refl _) rfl (fun w hw=>.inl hw)
 | order _ _ _ u f o =>
  cases o with
  | bad=>exact d
  | busy=>exact d
  | less dk l h0 hm hd hf =>
   exact pre_keep h hk d (.fence _) (fly_sub rfl) (Int.le_refl _) rfl (fun w hx=>by cases hx) (fun i hi hv hf he=>by
    have:t.k.ep+1=t.k.ep:=he
    omega)
  | more dk l h0 hd hf=>exact pre_in h hk d .same rfl (fly_sub rfl) (Int.le_refl _) rfl (fun w hw=>.inl hw)
 | block _ _ _ u a o =>
  obtain ⟨f1,f2,f3,f4,f5⟩:=o.flies hs
  exact pre_in h hk d o.nmove (by rw [f3]) f1 f2 f4 (fun w hw=>(f5 w hw).imp id (fun q=>q.1))
theorem pre_deliver (h:TI n S B t) {k:Nat} (hk:k<8) {c:Cel} {tag:Int} (d:DPre k c tag t) (i:Int) (b:Bool) :
  (tag ∉ (t.deliver i b).1.done→DPre k c tag (t.deliver i b).1)∧(tag∈(t.deliver i b).1.done→DPost k c (t.deliver i b).1):=by
 have hsame:(t.deliver i b).1=t→(tag ∉ (t.deliver i b).1.done→DPre k c tag (t.deliver i b).1)∧(tag∈(t.deliver i b).1.done→DPost k c (t.deliver i b).1):=fun e=>by
  rw [e]
  exact ⟨fun _=>d,fun hx=>absurd hx d.nd⟩
 have hfly:=deliver_fly t i b
 unfold Tg.deliver at hsame hfly ⊢
 by_cases hi:i<0∨(t.fly.length:Int)≤i
 ·rw [if_pos hi] at hsame ⊢; exact hsame rfl
 rw [if_neg hi] at hsame hfly ⊢
 have hm:=fly_get hi
 generalize t.fly.getD i.toNat ⟨0,0,Cel.zero,0⟩=m at hm hfly ⊢
 clear hsame
 dsimp only at hfly ⊢
 have hmm:=h.msg m hm
 obtain ⟨F,hF⟩:∃ F,(if b=true then t.fly else t.fly.eraseIdx i.toNat)=F:=⟨_,rfl⟩
 have hFs:∀ x∈F,x∈t.fly:=fun x hx=>by
  rw [← hF] at hx
  split at hx
  ·exact hx
  ·exact List.mem_of_mem_eraseIdx hx
 rw [hF] at hfly ⊢
 have d1:DPre k c tag { t with fly:=F,g:=t.g.deliver m.tt.toNat m.at'.toNat m.c } :=
  pre_in h hk d (.deliver m hm) rfl (fun x hx=>.inl (hFs x hx)) (Int.le_refl _) rfl (fun w hw=>.inl hw)
 split
 ·rename_i hdel
  obtain ⟨t1,ht1⟩:∃ t1,({ t with fly:=F,g:=t.g.deliver m.tt.toNat m.at'.toNat m.c }:Tg)=t1:=⟨_,rfl⟩
  rw [ht1] at d1 ⊢
  dsimp only
  have k1:t1.k=t.k∧t1.wait=t.wait∧t1.done=t.done∧t1.g=t.g.deliver m.tt.toNat m.at'.toNat m.c∧t1.tag=t.tag∧t1.fly=F:=by rw [← ht1]; exact ⟨rfl,rfl,rfl,rfl,rfl,rfl⟩
  obtain ⟨cs1,cs2,-,-,cs5,cs6⟩:=came_same t1 m
  unfold Tg.came at cs1 cs2 cs5 cs6 ⊢
  have hfind:∀ w,t1.wait.find? (fun w=>decide (w.tag=m.tag))=some w→w∈t.wait∧w.tag=m.tag:=fun w hw=>by
   refine ⟨by have:=List.mem_of_find?_eq_some hw; rw [k1.2.1] at this; exact this,?_⟩
   have:=List.find?_some hw
   simpa using this
  cases hq:t1.wait.find? (fun w=>decide (w.tag=m.tag)) with
  | none =>
   dsimp only
   exact ⟨fun _=>d1,fun hx=>absurd hx d1.nd⟩
  | some w =>
   obtain ⟨hwm,hwt⟩:=hfind w hq
   rw [hq] at cs1 cs2 cs5 cs6
   dsimp only at cs1 cs2 cs5 cs6 ⊢
   have hnew:m.tag=tag→valG t1.g k m.tt.toNat=c∧flG t1.g m.tt.toNat=t.k.ep:=fun e=>by
    obtain ⟨q1,q2⟩:=d.fly m hm e
    have hce:=d.ep w hwm (by rw [hwt]; exact e)
    have hdl:=hdel
    unfold Gp.delivers at hdl
    simp only [Bool.and_eq_true,decide_eq_true_eq] at hdl
    have hf:flG t.g m.tt.toNat=t.k.ep:=by show (t.g.r.getD m.tt.toNat Rp.zero).floor=_; rw [← hdl.2,q1,hce]
    have htt:m.tt.toNat<3:=by omega
    have hat:m.at'.toNat=k:=by omega
    refine ⟨?_,by rw [k1.2.2.2.1,flG_deliver h.qi.ok htt]; exact hf⟩
    rw [k1.2.2.2.1,valG_deliver_any h.qi.ok htt (by omega),hat]
    split
    ·exact q1
    ·rename_i hc
     have hnn:newerB m.c (valG t.g k m.tt.toNat)=false:=by
      cases hnw:newerB m.c (valG t.g k m.tt.toNat)
      ·rfl
      ·exact absurd ⟨hdel,hnw,rfl,rfl⟩ hc
     have hS:S m.c:=hmm.2.2.2.2.2.2.2
     have hle:=h.fa.total hS (valG_S h.al h.fa.z k m.tt.toNat) hnn
     rw [q1] at hle
     exact ((d.ub.val _ htt).antisymm hle)
   have hput:∀ x∈(w.put m.tt).hv,x∈w.hv∨x=m.tt:=fun x hx=>by
    unfold Wt.put at hx
    dsimp only at hx
    split at hx
    ·exact .inl hx
    ·rcases List.mem_append.1 hx with e | e
     ·exact .inl e
     ·exact .inr (by simpa using e)
   have hhas:m.tag=tag→∀ x∈(w.put m.tt).hv,∃ i:Nat,x=i∧i<3∧valG t1.g k i=c∧flG t1.g i=t.k.ep:=fun e x hx=>by
    rcases hput x hx with q | q
    ·obtain ⟨i,e1,e2,e3,e4⟩:=d1.hv w (by rw [k1.2.1]; exact hwm) (by rw [hwt]; exact e) x q
     exact ⟨i,e1,e2,e3,by rw [e4,k1.1]⟩
    ·obtain ⟨e1,e2⟩:=hnew e
     exact ⟨m.tt.toNat,by omega,by omega,e1,e2⟩
   split
   ·rename_i hlen
    rw [if_pos hlen] at cs1 cs2 cs5 cs6
    dsimp only
    by_cases e:m.tag=tag
    ·refine ⟨fun hx=>absurd (by
      show tag∈(if m.tag∈t1.done then t1.done else t1.done ++ [m.tag])
      rw [e]
      split
      ·assumption
      ·simp) hx,fun _=>?_⟩
     refine ⟨⟨d1.ub.z,d1.ub.val,d1.ub.fly⟩,?_⟩
     have hnd:(w.put m.tt).hv.Nodup:=by
      have hw1:=(h.wt w hwm).2.2
      unfold Wt.put
      dsimp only
      split
      ·exact nodup_one hw1
      ·rename_i hni
       rw [List.nodup_append]
       exact ⟨nodup_one hw1,by simp,fun x hx y hy hxy=>by
        simp only [List.mem_singleton] at hy
        exact hni (by rw [← hy,← hxy]; exact hx)⟩
     match hv:(w.put m.tt).hv,hnd,hlen with
     | x :: y :: l,hnd,_ =>
      have hxy:x≠y:=by
       have:=(List.nodup_cons.1 hnd).1
       exact fun e=>this (by rw [e]; simp)
      obtain ⟨i1,e1,e2,e3,-⟩:=hhas e x (by rw [hv]; simp)
      obtain ⟨i2,f1,f2,f3,-⟩:=hhas e y (by rw [hv]; simp)
      have hne:i1≠i2:=fun q=>hxy (by rw [e1,f1,q])
      show Two c k t1.g
      rcases Nat.lt_or_gt_of_ne hne with q | q
      ·exact ⟨i1,i2,q,f2,by rw [e3]; exact leC.refl _,by rw [f3]; exact leC.refl _⟩
      ·exact ⟨i2,i1,q,e2,by rw [f3]; exact leC.refl _,by rw [e3]; exact leC.refl _⟩
     | [],_,hl=>simp at hl
     | [x],_,hl=>simp at hl
    ·have hnt:tag ∉ (if m.tag∈t1.done then t1.done else t1.done ++ [m.tag]):=fun hx=>by
      split at hx
      ·exact d1.nd hx
      ·rcases List.mem_append.1 hx with q | q
       ·exact d1.nd q
       ·simp only [List.mem_singleton] at q; exact e q.symm
     refine ⟨fun _=>⟨⟨d1.ub.z,d1.ub.val,d1.ub.fly⟩,d1.le,d1.fly,fun x hx hxt=>d1.ep x (List.mem_filter.1 hx).1 hxt,fun x hx hxt=>d1.hv x (List.mem_filter.1 hx).1 hxt,hnt⟩,fun hx=>absurd hx hnt⟩
   ·rename_i hlen
    dsimp only
    refine ⟨fun _=>⟨⟨d1.ub.z,d1.ub.val,d1.ub.fly⟩,d1.le,d1.fly,fun x hx hxt=>?_,fun x hx hxt y hy=>?_,d1.nd⟩,fun hx=>absurd hx d1.nd⟩
    ·obtain ⟨z,hz,rfl⟩:=List.mem_map.1 hx
     split at hxt
     ·exact d1.ep z hz hxt
     ·exact d1.ep z hz hxt
    ·obtain ⟨z,hz,rfl⟩:=List.mem_map.1 hx
     by_cases hzm:z.tag=m.tag
     ·rw [if_pos hzm] at hxt hy
      have hzt:z.tag=tag:=hxt
      have hput':y∈z.hv∨y=m.tt:=by
       unfold Wt.put at hy
       dsimp only at hy
       split at hy
       ·exact .inl hy
       ·rcases List.mem_append.1 hy with q | q
        ·exact .inl q
        ·exact .inr (by simpa using q)
      rcases hput' with q | q
      ·exact d1.hv z hz hzt y q
      ·obtain ⟨e1,e2⟩:=hnew (by rw [← hzm]; exact hzt)
       exact ⟨m.tt.toNat,by omega,by omega,e1,by rw [e2,k1.1]⟩
     ·rw [if_neg hzm] at hxt hy
      exact d1.hv z hz hxt y hy
 ·dsimp only
  exact ⟨fun _=>d1,fun hx=>absurd hx d1.nd⟩
theorem play_flies (h:TI n S B t) (hB:B+2<1000000000000000) {k:Nat} (x:Ac) (hs:x.kind=sAsk→Elsewhere k x.cm):∀ m∈(t.play n x).fly,m∈t.fly∨m.at'≠(k:Int):=by
 have sub:∀ {u:Tg},(∀ m∈u.fly,m∈t.fly)→∀ m∈u.fly,m∈t.fly∨m.at'≠(k:Int):=fun hu m hm=>.inl (hu m hm)
 unfold Tg.play
 by_cases k1:x.kind=sAsk
 ·rw [if_pos k1]
  intro m hm
  have o:=asks_live h hB x.cm
  generalize t.ask n x.cm=r at o hm
  obtain ⟨u,a⟩:=r
  dsimp only at o hm
  cases o with
  | bad=>exact .inl hm
  | told=>exact .inl hm
  | order _ _ _ u f o =>
   cases o with
   | bad=>exact .inl hm
   | busy=>exact .inl hm
   | less=>exact .inl hm
   | more=>exact .inl hm
  | block _ _ _ u a o=>exact ((o.flies (hs k1)).1 m hm).imp id (fun q=>q.1)
 rw [if_neg k1]
 split
 ·exact sub (deliver_fly t _ _)
 split
 ·refine sub fun m hm=>?_
  unfold Tg.lose at hm
  split at hm
  ·exact hm
  ·exact List.mem_of_mem_eraseIdx hm
 split
 ·refine sub fun m hm=>?_
  unfold Tg.up at hm
  split at hm <;> exact hm
 split
 ·refine sub fun m hm=>?_
  unfold Tg.sync at hm
  split at hm
  ·exact hm
  ·split at hm <;> exact hm
 split
 ·refine sub fun m hm=>?_
  obtain ⟨n1,n2,n3⟩:=next_live h hB h.good.lost
  unfold Tg.power at hm
  dsimp only at hm
  by_cases h2:2≤(t.g.mem t.k.ep).length
  ·by_cases he:t.k.ep=1000000
   ·rw [n3 h2 he] at hm; exact hm
   ·obtain ⟨e1,d,e2,-⟩:=n1 h2 he
    rw [if_neg (by simp [e1]),e2] at hm; exact hm
  ·rw [n2 h2] at hm; exact hm
 ·refine sub fun m hm=>?_
  obtain ⟨n1,n2,n3⟩:=new_live h hB
  unfold Tg.anew at hm
  split at hm
  ·rename_i hz
   by_cases h2:2≤(t.g.mem t.k.ep).length
   ·by_cases he:t.k.ep=1000000
    ·rw [n3 h2 he] at hz; cases hz
    ·obtain ⟨e1,d,e2,-⟩:=n1 h2 he
     rw [e2] at hm; cases hm
   ·rw [n2 h2] at hz; cases hz
  ·exact hm
theorem post_play (h:TI n S B t) (hB:B+2<1000000000000000) {k:Nat} (hk:k<8) {c:Cel} (d:DPost k c t) (x:Ac) (hs:x.kind=sAsk→Elsewhere k x.cm):DPost k c (t.play n x) :=
 d.step h hk (play_move h hB x) (play_flies h hB x hs)
theorem pre_play (h:TI n S B t) (hB:B+2<1000000000000000) {k:Nat} (hk:k<8) {c:Cel} {tag:Int} (d:DPre k c tag t) (x:Ac) (hs:x.kind=sAsk→Elsewhere k x.cm)
  (hx:x.kind=sAsk∨x.kind=sDeliver∨x.kind=sLose∨x.kind=sUp∨x.kind=sDown∨x.kind=sSync) :
  (tag ∉ (t.play n x).done→DPre k c tag (t.play n x))∧(tag∈(t.play n x).done→DPost k c (t.play n x)):=by
 have go:∀ {u:Tg},DPre k c tag u→(tag ∉ u.done→DPre k c tag u)∧(tag∈u.done→DPost k c u):=fun hu=>⟨fun _=>hu,fun q=>absurd q hu.nd⟩
 unfold Tg.play
 by_cases k1:x.kind=sAsk
 ·rw [if_pos k1]; exact go (pre_ask h hk d (asks_live h hB x.cm) (hs k1))
 rw [if_neg k1]
 by_cases k2:x.kind=sDeliver
 ·rw [if_pos k2]; exact pre_deliver h hk d _ _
 rw [if_neg k2]
 by_cases k3:x.kind=sLose
 ·rw [if_pos k3]
  unfold Tg.lose
  split
  ·exact go d
  ·exact go (pre_in h hk d .same rfl (fun m hm=>.inl (List.mem_of_mem_eraseIdx hm)) (Int.le_refl _) rfl (fun w hw=>.inl hw))
 rw [if_neg k3]
 by_cases k4:x.kind=sUp∨x.kind=sDown
 ·rw [if_pos k4]
  unfold Tg.up
  split
  ·exact go d
  ·exact go (pre_in h hk d (.up _ _) rfl (fly_sub rfl) (Int.le_refl _) rfl (fun w hw=>.inl hw))
 rw [if_neg k4]
 have k6:x.kind=sSync:=by
  rcases hx with q | q | q | q | q | q
  ·exact absurd q k1
  ·exact absurd q k2
  ·exact absurd q k3
  ·exact absurd (.inl q) k4
  ·exact absurd (.inr q) k4
  ·exact q
 rw [if_pos k6]
 unfold Tg.sync
 split
 ·exact go d
 split
 ·exact go (pre_in h hk d (.sync _ (by omega)) rfl (fly_sub rfl) (Int.le_refl _) rfl (fun w hw=>.inl hw))
 ·exact go d
theorem pre_start (h:TI n S B t) {c:Cmd} (hf:cmdFault c=0) (ho:c.op=8) {k:Nat} (hat:c.at'=(k:Int)) {r:Tg × ByteArray × Int × Int} (hr:t.askN n c 6=r) (he:r.2.2.2=0) :
  ∃ S',TI n S' (B+1) r.1∧∃ cl:Cel,cl.d=c.data∧DPre k cl r.2.2.1 r.1:=by
 obtain ⟨u,a,o,e⟩:=asked_six h hf (by omega)
 rw [hr] at e
 subst e
 dsimp only at he ⊢
 have h':=h.deaf c.who
 have h9:=(fault_zero hf).2.1 (by omega)
 cases o with
 | no=>cases he
 | busy=>cases he
 | read _ _ h7=>omega
 | refused _ _ h9=>omega
 | full=>cases he
 | write hp hm u hu hl hw =>
  rcases hu with ⟨-,rfl⟩ | ⟨q,-⟩
  case inr=>omega
  obtain ⟨S',hSS,hti,-⟩:=h'.write (c:=c) h9
  have e2:((t.deaf c.who).write c).1={ t.deaf c.who with num:=(t.deaf c.who).num+1,tag:=(t.deaf c.who).tag+1,fly:=(t.deaf c.who).fly ++ [(t.deaf c.who).msg c 0,(t.deaf c.who).msg c 1,(t.deaf c.who).msg c 2],wait:=(t.deaf c.who).wait ++ [⟨(t.deaf c.who).tag+1,c.who,(t.deaf c.who).num+1,[]⟩] }:=by
   unfold Tg.write
   rw [if_neg (by omega)]
  rw [e2] at hti
  refine ⟨S',hti,⟨t.k.ep,t.num+1,c.data⟩,rfl,?_⟩
  have he1:=h.e1
  have newer:∀ x,S x→leC x ⟨t.k.ep,t.num+1,c.data⟩:=fun x hx=>by
   right
   unfold newerB
   rw [decide_eq_true_eq]
   rcases h.sb x hx with q | q <;> dsimp only <;> omega
  refine ⟨⟨newer _ h.fa.z,fun i _=>newer _ (valG_S h.al h.fa.z k i),fun m hm hmat=>?_⟩,Int.le_refl _,fun m hm hmt=>?_,fun w hw hwt=>?_,fun w hw hwt x hx=>?_,fun hd=>?_⟩
  ·rcases List.mem_append.1 hm with q | q
   ·exact newer _ (h.msg m q).2.2.2.2.2.2.2
   ·simp only [List.mem_cons,List.mem_nil_iff,or_false] at q
    rcases q with rfl | rfl | rfl <;> exact leC.refl _
  ·rcases List.mem_append.1 hm with q | q
   ·have:=(h.msg m q).2.2.2.2.2.2.1
    have e3:m.tag=t.tag+1:=hmt
    omega
   ·simp only [List.mem_cons,List.mem_nil_iff,or_false] at q
    rcases q with rfl | rfl | rfl <;> exact ⟨rfl,hat⟩
  ·rfl
  ·rcases List.mem_append.1 hw with q | q
   ·have:=(h.wt w q).2.1
    have e3:w.tag=t.tag+1:=hwt
    omega
   ·simp only [List.mem_singleton] at q
    subst q
    cases hx
  ·have:=h.dn _ hd
   have e3:t.tag+1≤t.tag:=this.2
   omega
theorem post_read (h:TI n S B t) {k:Nat} (hk:k<8) {cl:Cel} (d:DPost k cl t) {c:Cmd} (hf:cmdFault c=0) (ho:c.op=7) (hat:c.at'=(k:Int)) {r:Tg × ByteArray × Int × Int} (hr:t.askN n c 6=r) :
  TI n S B r.1∧DPost k cl r.1∧r.1.k=t.k∧(r.2.2.2=0→r.2.1=cl.d)∧(r.2.2.2=0∨r.2.2.2=7∨(r.2.2.2=4∧pmay t.k.s c.who false=false)):=by
 obtain ⟨u,a,o,e⟩:=asked_six h hf (by omega)
 rw [hr] at e
 subst e
 dsimp only
 have h':=h.deaf c.who
 have d':DPost k cl (t.deaf c.who):=⟨⟨d.ub.z,d.ub.val,d.ub.fly⟩,d.two⟩
 have hkk:(t.deaf c.who).k=t.k:=rfl
 cases o with
 | no hp =>
  refine ⟨h',d',rfl,(fun he=>by cases he),.inr (.inr ⟨rfl,?_⟩)⟩
  rw [hkk,ho] at hp
  simpa using hp
 | busy=>exact ⟨h',d',rfl,(fun he=>by cases he),.inr (.inl rfl)⟩
 | read hp hm =>
  have hkn:c.at'.toNat=k:=by omega
  refine ⟨h'.setG (h'.qi.read _) (h'.al.read h'.fa.z _ _),d'.step h' hk (u:={ t.deaf c.who with g:=(t.deaf c.who).g.read (t.deaf c.who).k.ep c.at'.toNat }) (.read _) (fun m hm=>.inl hm),rfl,fun _=>?_,.inl rfl⟩
  have e1:=d'.two.best h'.fa h'.al hm
  have e2:=d'.ub.best (t.deaf c.who).k.ep
  show (bestL c.at'.toNat ((t.deaf c.who).g.frm (t.deaf c.who).k.ep)).d=cl.d
  rw [hkn,e2.antisymm e1]
 | refused _ _ h9=>omega
 | full _ _ u hu=>rcases hu with ⟨q,-⟩ | ⟨q,-⟩ <;> omega
 | write _ _ u hu=>rcases hu with ⟨q,-⟩ | ⟨q,-⟩ <;> omega
end
end Go.Proofs.YtajegiifabfcjaaGreatDoor
