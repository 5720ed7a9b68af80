/-
  TopSync, TopEpoch, TopPower, TopAgain: the plain laws.
-/
import Derived.Test.YtajegiifabfcjaaGreatDoorTTgDone
import Derived.Test.YtajegiifabfcjaaGreatDoorTKeptP
namespace Go.Proofs.YtajegiifabfcjaaGreatDoor
open Go.RowKit
theorem bestL_map {l m:List Rp} {k:Nat} (h:l.map (fun r=>r.get k)=m.map (fun r=>r.get k)):bestL k l=bestL k m:=by
 have e:∀ l:List Rp,bestL k l=(l.map (fun r=>r.get k)).foldl (fun b c=>if newerB c b then c else b) Cel.zero:=fun l=>by
  unfold bestL
  rw [List.foldl_map]
 rw [e,e,h]
theorem best_fence {g:Gp} {ep:Int} (h:QI g ep) (hm:2≤(g.mem ep).length) (k:Nat):bestL k ((g.fence (ep+1)).frm (ep+1))=bestL k (g.frm ep):=by
 refine bestL_map ?_
 unfold Gp.frm
 rw [(fence_next h hm).2.1,List.map_map,List.map_map]
 refine List.map_congr_left fun x _=>?_
 show valG (g.fence (ep+1)) k x.toNat=valG g k x.toNat
 exact valG_fence h.ok _ _ _
section
variable {n:Nat} {S:Cel→Prop} {B:Int} {t:Tg}
theorem sync_law (h:TI n S B t) {i:Nat} (hi:i<3) :
  ((t.sync i).2≠0→(t.sync i).2=7∧(t.sync i).1=t) ∧
  ((t.sync i).2=0→flG t.g i≠t.k.ep∧(t.sync i).1={ t with g:=t.g.sync t.k.ep i }∧flG (t.g.sync t.k.ep i) i=t.k.ep∧(∀ k,k<8→valG (t.g.sync t.k.ep i) k i=bestL k (t.g.frm t.k.ep))∧(t.g.sync t.k.ep i).u=t.g.u∧∀ j,j≠i→(t.g.sync t.k.ep i).r.getD j Rp.zero=t.g.r.getD j Rp.zero):=by
 have hni:¬ ((i:Int)<0∨3≤(i:Int)):=by omega
 unfold Tg.sync
 rw [if_neg hni,Int.toNat_natCast]
 by_cases hs:t.g.syncs t.k.ep i=true
 ·rw [if_pos hs]
  refine ⟨fun he=>absurd rfl he,fun _=>⟨by have:=(syncs_mem hs).2.2; omega,rfl,?_,fun k hk=>?_,?_,fun j hj=>?_⟩⟩
  ·rw [flG_sync h.qi.ok _ hi,if_pos ⟨hs,rfl⟩]
  ·rw [valG_sync h.qi.ok _ hi hk,if_pos ⟨hs,rfl⟩]
  ·unfold Gp.sync; rw [if_pos hs]; rfl
  ·unfold Gp.sync
   rw [if_pos hs,getR_setR (by rw [h.qi.ok.r3]; exact hi),if_neg hj]
 ·rw [if_neg hs]
  exact ⟨fun _=>⟨rfl,rfl⟩,fun he=>by cases he⟩
theorem less_refl (s:St):lessB pmay s s=false:=less_false fun j _ b=>by unfold lessAt; cases pmay s ((j:Int)+1) b <;> rfl
structure EpF (t u:Tg) (pow:Prop):Prop where
 le:t.k.ep≤u.k.ep
 less:lessB pmay t.k.s u.k.s=true→t.k.ep<u.k.ep
 up:t.k.ep<u.k.ep→lessB pmay t.k.s u.k.s=true∨pow
theorem EpF.same {t u:Tg} {pow:Prop} (h:u.k=t.k):EpF t u pow:=by
 refine ⟨by rw [h]; exact Int.le_refl _,fun hl=>?_,fun hl=>?_⟩
 ·rw [h,less_refl] at hl; cases hl
 ·rw [h] at hl; omega
theorem Ordered.epf {c:Cmd} {u:Tg} {f:Int} (o:Ordered n t c u f) (pow:Prop):EpF t u pow:=by
 cases o with
 | bad=>exact EpF.same rfl
 | busy=>exact EpF.same rfl
 | less d l h0 hm hd hf=>exact ⟨by show t.k.ep≤t.k.ep+1; omega,fun _=>by show t.k.ep<t.k.ep+1; omega,fun _=>.inl l⟩
 | more d l h0 hd hf =>
  refine ⟨by show t.k.ep≤t.k.ep; omega,fun hl=>?_,fun hl=>?_⟩
  ·have:lessB pmay t.k.s (pdo t.k.s c).1=true:=hl
   rw [l] at this; cases this
  ·have:t.k.ep<t.k.ep:=hl
   omega
theorem Asked.same_k {c:Cmd} {u:Tg} {a:Ans} (o:Asked t c u a):u.k=t.k:=by
 cases o with
 | no=>rfl
 | busy=>rfl
 | read=>rfl
 | refused=>rfl
 | full _ _ u hu=>rcases hu with ⟨-,rfl⟩ | ⟨-,rfl,-⟩ <;> rfl
 | write _ _ u hu=>rcases hu with ⟨-,rfl⟩ | ⟨-,rfl,-⟩ <;> rfl
theorem Asks.epf {c:Cmd} {u:Tg} {a:Ans} (o:Asks n t c u a) (pow:Prop):EpF t u pow:=by
 cases o with
 | bad=>exact EpF.same rfl
 | told=>exact EpF.same rfl
 | order _ _ _ _ _ o=>exact o.epf pow
 | block _ _ _ _ _ o=>exact EpF.same o.same_k
theorem deliver_k (t:Tg) (i:Int) (b:Bool):(t.deliver i b).1.k=t.k:=by
 unfold Tg.deliver
 split
 ·rfl
 dsimp only
 split
 ·exact (came_same _ _).1
 ·rfl
theorem anew_epf (h:TI n S B t) (hB:B+2<1000000000000000):((Tg.new n t.k t.g).2=0→t.k.ep<(t.anew n).k.ep)∧((Tg.new n t.k t.g).2≠0→t.anew n=t):=by
 obtain ⟨n1,n2,n3⟩:=new_live h hB
 unfold Tg.anew
 refine ⟨fun hz=>?_,fun hz=>by rw [if_neg hz]⟩
 rw [if_pos hz]
 by_cases hm:2≤(t.g.mem t.k.ep).length
 ·by_cases he:t.k.ep=1000000
  ·rw [n3 hm he] at hz; cases hz
  ·obtain ⟨e1,d,e2,-⟩:=n1 hm he
   rw [e2]
   show t.k.ep<t.k.ep+1
   omega
 ·rw [n2 hm] at hz; cases hz
theorem power_epf (h:TI n S B t) (hB:B+2<1000000000000000):EpF t (t.power n).1 True:=by
 obtain ⟨n1,n2,n3⟩:=next_live h hB h.good.lost
 unfold Tg.power
 dsimp only
 by_cases hm:2≤(t.g.mem t.k.ep).length
 ·by_cases he:t.k.ep=1000000
  ·rw [n3 hm he]; exact EpF.same rfl
  ·obtain ⟨e1,d,e2,-⟩:=n1 hm he
   rw [if_neg (by simp [e1]),e2]
   exact ⟨by show t.k.ep≤t.k.ep+1; omega,fun _=>by show t.k.ep<t.k.ep+1; omega,fun _=>.inr trivial⟩
 ·rw [n2 hm]; exact EpF.same rfl
theorem play_epf (h:TI n S B t) (hB:B+2<1000000000000000) (x:Ac) (hn:x.kind≠sAsk→x.kind≠sDeliver→x.kind≠sLose→x.kind≠sUp→x.kind≠sDown→x.kind≠sSync→x.kind≠sPower→(Tg.new n t.k t.g).2≠0):EpF t (t.play n x) (x.kind=sPower):=by
 unfold Tg.play
 by_cases k1:x.kind=sAsk
 ·rw [if_pos k1]; exact (asks_live h hB _).epf _
 rw [if_neg k1]
 by_cases k2:x.kind=sDeliver
 ·rw [if_pos k2]; exact EpF.same (deliver_k _ _ _)
 rw [if_neg k2]
 by_cases k3:x.kind=sLose
 ·rw [if_pos k3]; refine EpF.same ?_; unfold Tg.lose; split <;> rfl
 rw [if_neg k3]
 by_cases k4:x.kind=sUp∨x.kind=sDown
 ·rw [if_pos k4]; refine EpF.same ?_; unfold Tg.up; split <;> rfl
 rw [if_neg k4]
 by_cases k6:x.kind=sSync
 ·rw [if_pos k6]
  refine EpF.same ?_
  unfold Tg.sync
  split
  ·rfl
  ·split <;> rfl
 rw [if_neg k6]
 by_cases k7:x.kind=sPower
 ·rw [if_pos k7]
  obtain ⟨a,b,c⟩:=power_epf h hB
  exact ⟨a,b,fun _=>.inr k7⟩
 rw [if_neg k7]
 exact EpF.same (by rw [(anew_epf h hB).2 (hn k1 k2 k3 (fun e=>k4 (.inl e)) (fun e=>k4 (.inr e)) k6 k7)])
theorem power_law (h:TI n S B t) (hB:B+2<1000000) (k:Nat) :
  ((t.power n).2≠0→t.most=false∧(t.power n).1=t) ∧
  ((t.power n).2=0→(t.power n).1.k.s=t.k.s.lost∧(t.power n).1.wait=[]∧(t.power n).1.b=Bl.pow∧(t.power n).1.newest k=t.newest k):=by
 obtain ⟨n1,n2,n3⟩:=next_live h (by omega) h.good.lost
 have heb:=h.eb
 unfold Tg.power
 dsimp only
 by_cases hm:2≤(t.g.mem t.k.ep).length
 ·obtain ⟨e1,d,e2,-⟩:=n1 hm (by omega)
  rw [if_neg (by simp [e1]),e2]
  refine ⟨fun he=>absurd rfl he,fun _=>⟨rfl,rfl,rfl,?_⟩⟩
  show bestL k ((t.g.fence (t.k.ep+1)).frm (t.k.ep+1))=bestL k (t.g.frm t.k.ep)
  exact best_fence h.qi hm k
 ·rw [n2 hm]
  rw [if_pos (show (7:Int)≠0 by omega)]
  exact ⟨fun _=>⟨decide_eq_false hm,rfl⟩,fun he=>by cases he⟩
theorem again_law (h:TI n S B t) (hB:B+2<1000000) (k:Nat) :
  ((Tg.new n t.k t.g).2≠0→t.most=false∧(Tg.new n t.k t.g).2=7) ∧
  ((Tg.new n t.k t.g).2=0→(Tg.new n t.k t.g).1.k.s=t.k.s∧t.k.ep<(Tg.new n t.k t.g).1.k.ep∧(Tg.new n t.k t.g).1.wait=[]∧(Tg.new n t.k t.g).1.fly=[]∧(Tg.new n t.k t.g).1.newest k=t.newest k∧TI n S (B+2) (Tg.new n t.k t.g).1):=by
 obtain ⟨n1,n2,n3⟩:=new_live h (by omega)
 have heb:=h.eb
 by_cases hm:2≤(t.g.mem t.k.ep).length
 ·obtain ⟨e1,d,e2,e3,e4⟩:=n1 hm (by omega)
  rw [e1,e2]
  refine ⟨fun he=>absurd rfl he,fun _=>⟨rfl,by show t.k.ep<t.k.ep+1; omega,rfl,rfl,?_,h.new hm e3 e4⟩⟩
  show bestL k ((t.g.fence (t.k.ep+1)).frm (t.k.ep+1))=bestL k (t.g.frm t.k.ep)
  exact best_fence h.qi hm k
 ·rw [n2 hm]
  exact ⟨fun _=>⟨decide_eq_false hm,rfl⟩,fun he=>by cases he⟩
end
end Go.Proofs.YtajegiifabfcjaaGreatDoor
