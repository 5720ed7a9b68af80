/-
  DoPlain, DoTop, TopOrdP, TgInv, TgStep
-/
import Derived.Test.YtajegiifabfcjaaGreatDoorQ17
namespace Go.Proofs.YtajegiifabfcjaaGreatDoor
open Go.RowKit
theorem keyOf_filter_keep (x:Int) (p:Int × Int→Bool):∀ (l:List (Int × Int)),(∀ r∈l,r.1=x→p r=true)→keyOf (l.filter p) x=keyOf l x
 | [],_=>rfl
 | r :: l,h=>by
  have ih:=keyOf_filter_keep x p l (fun y hy=>h y (by simp [hy]))
  by_cases hr:r.1=x
  ·rw [List.filter_cons_of_pos (h r (by simp) hr)]
   unfold keyOf; rw [if_pos hr,if_pos hr]
  ·have e:keyOf (r :: l) x=keyOf l x:=by rw [keyOf,if_neg hr]
   rw [e]
   cases hp:p r
   ·rw [List.filter_cons_of_neg (by simp [hp])]; exact ih
   ·rw [List.filter_cons_of_pos hp,keyOf,if_neg hr]; exact ih
theorem keyOf_in:∀ {l:List (Int × Int)},l.Pairwise (fun a b=>a.1<b.1)→∀ r∈l,keyOf l r.1=r.2
 | x :: l,hp,r,hr=>by
  rw [List.pairwise_cons] at hp
  unfold keyOf
  rcases List.mem_cons.1 hr with rfl | h
  ·rw [if_pos rfl]
  ·have:=hp.1 r h
   rw [if_neg (by omega)]
   exact keyOf_in hp.2 r h
theorem ne_nil_of_key {l:List (Int × Int)} {x:Int} (h:keyOf l x≠0):l≠[]:=by rintro rfl; exact h rfl
theorem pknown_iff (s:St) (c:Cmd):pknown s c=true ↔ 0<c.key∧keyOf s.regs c.who=c.key:=by
 unfold pknown; rw [Bool.and_eq_true,decide_eq_true_eq,decide_eq_true_eq]
structure DoOk (s:St) (c:Cmd) (r:St) (lt:List (Int × Int)) (r0:St):Prop where
 op:c.op≤6
 one:c.op=1→keyOf s.regs c.who=c.key
 known:2<c.op→0<c.key∧keyOf s.regs c.who=c.key
 acts:pacts s c=(r0,lt,0)
 res:r.regs=r0.regs∧r.typ=r0.typ∧r.holder=r0.holder∧r.stays=r0.stays∧(r.gen=r0.gen∨r.gen=r0.next.gen)
theorem pdo_ok {s:St} {c:Cmd} {r:St} {lt:List (Int × Int)} (h:pdo s c=(r,lt,0)):∃ r0,DoOk s c r lt r0:=by
 unfold pdo at h
 by_cases h6:6<c.op
 ·rw [if_pos h6] at h; cases h
 rw [if_neg h6] at h
 by_cases hd:(c.op=1∧keyOf s.regs c.who≠c.key)∨(2<c.op∧pknown s c=false)
 ·rw [if_pos hd] at h; cases h
 rw [if_neg hd] at h
 have h1:c.op=1→keyOf s.regs c.who=c.key:=fun h=>by
  by_cases e:keyOf s.regs c.who=c.key
  ·exact e
  ·exact absurd (.inl ⟨h,e⟩) hd
 have h2:2<c.op→0<c.key∧keyOf s.regs c.who=c.key:=fun h=>by
  cases e:pknown s c
  ·exact absurd (.inr ⟨h,e⟩) hd
  ·exact (pknown_iff s c).1 e
 by_cases hf:(pacts s c).2.2≠0
 ·rw [if_pos hf] at h
  simp only [Prod.mk.injEq] at h
  exact absurd h.2.2 hf
 rw [if_neg hf] at h
 have hf':(pacts s c).2.2=0:=by omega
 refine ⟨(pacts s c).1,⟨by omega,h1,h2,?_,?_⟩⟩
 ·split at h
  ·simp only [Prod.mk.injEq] at h; rw [← h.2.1,← hf']
  ·simp only [Prod.mk.injEq] at h; rw [← h.2.1,← hf']
 ·split at h
  ·simp only [Prod.mk.injEq] at h; rw [← h.1]; exact ⟨rfl,rfl,rfl,rfl,.inr rfl⟩
  ·simp only [Prod.mk.injEq] at h; rw [← h.1]; exact ⟨rfl,rfl,rfl,rfl,.inl rfl⟩
theorem good_free {s:St} (hg:0≤s.gen∧s.gen≤1000000000) (hb:∀ r∈s.regs,1≤r.1∧r.1≤4∧1≤r.2∧r.2≤999) (hs:s.regs.Pairwise (fun a b=>a.1<b.1)):Good s.free :=
 ⟨hg,hb,hs,fun _=>rfl,fun h=>absurd rfl h,fun h=>absurd h (by simp [St.free]),fun h=>absurd rfl h⟩
theorem typ_pos {s:St} (g:Good s) (h:s.typ≠0):0<s.typ∧s.typ≤8:=by have:=g.typ h; simp [typeMay] at this; omega
theorem allT_typ {s:St} (g:Good s):allT s.typ=true ↔ 7≤s.typ:=by rw [allT_ge (typ_or g)]; simp
theorem Good.kpos {s:St} (g:Good s) {x:Int} (h:keyOf s.regs x≠0):0<keyOf s.regs x:=by
 have:=keyOf_nonneg x s.regs (fun r hr=>(g.bounds r hr).2.2.1); omega
theorem good_register {s:St} (g:Good s) {c:Cmd} (hc:CmdOk c):Good (pregister s c).1:=by
 have hb:∀ r∈withL s.regs c.who c.new,1≤r.1∧r.1≤4∧1≤r.2∧r.2≤999:=by
  intro r hr
  rcases mem_with hr with ⟨rfl,h⟩ | ⟨h,_⟩
  ·have:=hc.who; have:=hc.new; dsimp only; omega
  ·exact g.bounds r h
 have hs:=sorted_with c.who c.new g.sorted
 unfold pregister
 dsimp only
 by_cases h1:0<c.new∨holds s c.who=false
 ·rw [if_pos h1]
  have hk:∀ x,x≠c.who→keyOf (withL s.regs c.who c.new) x=keyOf s.regs x:=fun x hx=>keyOf_with _ _ _ _ hx
  refine ⟨g.gen,hb,hs,g.zero,g.typ,fun h7=>⟨(g.all h7).1,?_⟩,fun h0 h7=>?_⟩
  ·by_cases hn:0<c.new
   ·exact ne_nil_of_key (x:=c.who) (by show keyOf (withL s.regs c.who c.new) c.who≠0; rw [keyOf_with_self _ _ _ (by omega)]; omega)
   ·have hh:holds s c.who=false:=h1.resolve_left hn
    have h78:s.typ=7∨s.typ=8:=by have:=g.typ (by have:7≤s.typ:=h7; omega); have h7':7≤s.typ:=h7; simp [typeMay] at this; omega
    have hk0:¬ 0<keyOf s.regs c.who:=by simpa [holds,h78] using hh
    have hno:∀ r∈s.regs,r.1≠c.who:=by
     rintro r hr e
     have h:=keyOf_of_mem s.regs (fun r hr=>(g.bounds r hr).2.2.1) r hr
     rw [e] at h
     exact hk0 (g.kpos h)
    have e:withL s.regs c.who c.new=s.regs:=by unfold withL; rw [if_neg hn]; exact without_all _ _ hno
    show withL s.regs c.who c.new≠[]
    rw [e]; exact (g.all h7).2
  ·show keyOf (withL s.regs c.who c.new) s.holder≠0
   have h0':s.typ≠0:=h0
   have h7':s.typ<7:=h7
   by_cases he:s.holder=c.who
   ·by_cases hn:0<c.new
    ·rw [he,keyOf_with_self _ _ _ (by omega)]; omega
    ·have hh:holds s c.who=false:=h1.resolve_left hn
     have:=typ_pos g h0'
     have h78:¬ (s.typ=7∨s.typ=8):=by omega
     simp [holds,h78,he] at hh
     omega
   ·rw [hk _ he]; exact g.one h0' h7'
 ·rw [if_neg h1]
  by_cases h2:allT s.typ=true∧0<((s.withRegs (withL s.regs c.who c.new)).withStays c.stays).regs.length
  ·rw [if_pos h2]
   have h7:=(allT_typ g).1 h2.1
   refine ⟨g.gen,hb,hs,g.zero,g.typ,fun _=>⟨(g.all h7).1,fun e=>?_⟩,fun _ h=>?_⟩
   ·have:=h2.2; rw [e] at this; simp at this
   ·have h':s.typ<7:=h; omega
  ·rw [if_neg h2]
   split <;> exact good_free (s:=(s.withRegs (withL s.regs c.who c.new)).withStays c.stays) g.gen hb hs
theorem good_reserve {s:St} (g:Good s) {c:Cmd} (ht:typeMay c.typ=true) (hk:0<c.key∧keyOf s.regs c.who=c.key):Good (preserve s c).1:=by
 unfold preserve
 split
 ·split <;> exact g
 ·have ht':c.typ=1∨c.typ=3∨5≤c.typ∧c.typ≤8:=by simpa [typeMay] using ht
  refine ⟨g.gen,g.bounds,g.sorted,fun h=>?_,fun _=>ht,fun h=>⟨?_,?_⟩,fun _ h=>?_⟩
  ·have h':c.typ=0:=h; omega
  ·have h':7≤c.typ:=h
   show (if allT c.typ=true then (0:Int) else c.who)=0
   rw [if_pos (by rw [allT_ge (.inr ht)]; simpa using h')]
  ·exact ne_nil_of_key (x:=c.who) (by show keyOf s.regs c.who≠0; omega)
  ·have h':c.typ<7:=h
   show keyOf s.regs (if allT c.typ=true then (0:Int) else c.who)≠0
   rw [if_neg (by rw [allT_ge (.inr ht)]; simp; omega)]; omega
theorem good_release {s:St} (g:Good s) (c:Cmd):Good (prelease s c).1:=by
 unfold prelease
 repeat' split
 all_goals (first | exact g | exact good_free g.gen g.bounds g.sorted)
theorem out_list {s:St} (g:Good s) (who key:Int):putOut s.regs (goneL who key s.regs)=s.regs.filter (fun r=>!outB who key r):=putOut_gone g.sorted who key
theorem out_mem {s:St} (g:Good s) {who key:Int} {x:Int × Int} (h:x∈putOut s.regs (goneL who key s.regs)):x∈s.regs∧outB who key x=false:=by
 rw [out_list g] at h
 have:=List.mem_filter.1 h
 exact ⟨this.1,by simpa using this.2⟩
theorem out_self {s:St} (g:Good s) (who key:Int):keyOf (putOut s.regs (goneL who key s.regs)) who=keyOf s.regs who:=by
 rw [out_list g]
 exact keyOf_filter_keep _ _ _ (fun r _ e=>by simp [outB,e])
theorem out_good {s:St} (g:Good s) (who key:Int):(∀ r∈putOut s.regs (goneL who key s.regs),1≤r.1∧r.1≤4∧1≤r.2∧r.2≤999)∧(putOut s.regs (goneL who key s.regs)).Pairwise (fun a b=>a.1<b.1) :=
 ⟨fun r hr=>g.bounds r (out_mem g hr).1,by rw [out_list g]; exact g.sorted.filter _⟩
theorem preempt_ok {s:St} {c:Cmd} {r0:St} {lt:List (Int × Int)} (h:ppreempt s c=(r0,lt,0)) :
  (ptakes s c=true∧r0=(s.withRegs (putOut s.regs (goneL c.who c.new s.regs))).free.take c.typ c.who∧lt=toldL (goneL c.who c.new s.regs) 1 ++ (if s.typ≠c.typ then toldL (othersL c.who (putOut s.regs (goneL c.who c.new s.regs))) 2 else [])) ∨
  (ptakes s c=false∧c.new≠0∧r0=s.withRegs (putOut s.regs (goneL c.who c.new s.regs))∧lt=toldL (goneL c.who c.new s.regs) 1):=by
 unfold ppreempt at h
 split at h
 ·cases h
 ·rename_i h1
  dsimp only at h
  cases ht:ptakes s c
  ·rw [if_pos ht] at h
   split at h
   ·cases h
   ·cases h; exact .inr ⟨rfl,fun e=>h1 ⟨e,ht⟩,rfl,rfl⟩
  ·rw [if_neg (by rw [ht]; simp)] at h
   cases h; exact .inl ⟨rfl,rfl,rfl⟩
theorem good_preempt {s:St} (g:Good s) {c:Cmd} (ht:typeMay c.typ=true) (hk:0<c.key∧keyOf s.regs c.who=c.key) {r0:St} {lt:List (Int × Int)} (h:ppreempt s c=(r0,lt,0)):Good r0:=by
 obtain ⟨hb,hs⟩:=out_good g c.who c.new
 have hself:=out_self g c.who c.new
 have ht':c.typ=1∨c.typ=3∨5≤c.typ∧c.typ≤8:=by simpa [typeMay] using ht
 rcases preempt_ok h with ⟨-,rfl,-⟩ | ⟨htk,hn,rfl,-⟩
 ·refine ⟨g.gen,hb,hs,fun h=>?_,fun _=>ht,fun h=>⟨?_,?_⟩,fun _ h=>?_⟩
  ·have h':c.typ=0:=h; omega
  ·have h':7≤c.typ:=h
   show (if allT c.typ=true then (0:Int) else c.who)=0
   rw [if_pos (by rw [allT_ge (.inr ht)]; simpa using h')]
  ·exact ne_nil_of_key (x:=c.who) (by show keyOf (putOut s.regs (goneL c.who c.new s.regs)) c.who≠0; omega)
  ·have h':c.typ<7:=h
   show keyOf (putOut s.regs (goneL c.who c.new s.regs)) (if allT c.typ=true then (0:Int) else c.who)≠0
   rw [if_neg (by rw [allT_ge (.inr ht)]; simp; omega)]; omega
 ·refine ⟨g.gen,hb,hs,g.zero,g.typ,fun h=>⟨(g.all h).1,?_⟩,fun h0 h7=>?_⟩
  ·exact ne_nil_of_key (x:=c.who) (by show keyOf (putOut s.regs (goneL c.who c.new s.regs)) c.who≠0; omega)
  ·have h0':s.typ≠0:=h0
   have h7':s.typ<7:=h7
   have hp:=typ_pos g h0'
   have ha:allT s.typ=false:=by
    cases e:allT s.typ
    ·rfl
    ·have:=(allT_typ g).1 e; omega
   have hkn:keyOf s.regs s.holder≠c.new:=by
    intro e
    simp [ptakes,ha,hp.1,e] at htk
   show keyOf (putOut s.regs (goneL c.who c.new s.regs)) s.holder≠0
   rw [out_list g,keyOf_filter_keep]
   ·exact g.one h0' h7'
   ·intro r hr e
    have:=keyOf_in g.sorted r hr
    rw [e] at this
    have h2:r.2≠c.new:=by rw [← this]; exact hkn
    simp [outB,hn,h2]
theorem good_acts {s:St} (g:Good s) {c:Cmd} (hc:CmdOk c) {r r0:St} {lt:List (Int × Int)} (h:DoOk s c r lt r0):Good r0:=by
 have ha:=h.acts
 unfold pacts at ha
 split at ha
 ·cases ha; exact good_register g hc
 ·split at ha
  ·rename_i h3
   simp only [Prod.mk.injEq] at ha; rw [← ha.1]
   exact good_reserve g (hc.typ (.inl h3)) (h.known (by omega))
  ·split at ha
   ·have e:r0=(prelease s c).1:=by rw [ha]
    rw [e]; exact good_release g c
   ·split at ha
    ·cases ha
     exact ⟨g.gen,fun r hr=>by simp [St.withRegs] at hr,by simp [St.withRegs],fun _=>rfl,fun h=>absurd rfl h,fun h=>absurd h (by simp [St.withRegs,St.free]),fun h=>absurd rfl h⟩
    ·split at ha
     ·rename_i h6
      exact good_preempt g (hc.typ (.inr (.inr h6))) (h.known (by omega)) ha
     ·cases ha; exact g
theorem good_res {s r r0:St} {c:Cmd} {lt:List (Int × Int)} (h:DoOk s c r lt r0) (g:Good r0):Good r:=by
 obtain ⟨e1,e2,e3,e4,e5⟩:=h.res
 refine ⟨?_,by rw [e1]; exact g.bounds,by rw [e1]; exact g.sorted,by rw [e2,e3]; exact g.zero,by rw [e2]; exact g.typ,by rw [e1,e2,e3]; exact g.all,by rw [e1,e2,e3]; exact g.one⟩
 have:=g.gen
 rcases e5 with e | e
 ·rw [e]; exact this
 ·rw [e]; unfold St.next; dsimp only; split <;> omega
theorem do_order {s:St} (g:Good s) {c:Cmd} (hc:CmdOk c) {r:St} {lt:List (Int × Int)} (h:pdo s c=(r,lt,0)):Good r∧(c.op=2∨keyOf s.regs c.who=c.key):=by
 obtain ⟨r0,hr⟩:=pdo_ok h
 refine ⟨good_res hr (good_acts g hc hr),?_⟩
 have:=hc.op
 rcases (by omega:c.op=1∨c.op=2∨2<c.op) with h1 | h1 | h1
 ·exact .inr (hr.one h1)
 ·exact .inl h1
 ·exact .inr (hr.known h1).2
def toldTo (lt:List (Int × Int)) (who:Int):Int:=lt.foldl (fun t x=>if x.1=who then x.2 else t) 0
theorem told_none (who:Int):∀ (l:List (Int × Int)) (t:Int),(∀ x∈l,x.1≠who)→l.foldl (fun t x=>if x.1=who then x.2 else t) t=t
 | [],_,_=>rfl
 | x :: l,t,h=>by
  rw [List.foldl_cons,if_neg (h x (by simp))]
  exact told_none who l t (fun y hy=>h y (by simp [hy]))
theorem told_mem (who v:Int):∀ (l:List (Int × Int)) (t:Int),l.Pairwise (fun a b=>a.1≠b.1)→(who,v)∈l→l.foldl (fun t x=>if x.1=who then x.2 else t) t=v
 | x :: l,t,hp,hm=>by
  rw [List.pairwise_cons] at hp
  rw [List.foldl_cons]
  rcases List.mem_cons.1 hm with rfl | hm
  ·rw [if_pos rfl]
   exact told_none who l v (fun y hy e=>hp.1 y hy e.symm)
  ·exact told_mem who v l _ hp.2 hm
theorem toldTo_mem {lt:List (Int × Int)} {who v:Int} (hp:lt.Pairwise (fun a b=>a.1≠b.1)) (h:(who,v)∈lt):toldTo lt who=v:=told_mem who v lt 0 hp h
theorem toldL_mem {l:List Int} {v:Int} {x:Int × Int} (h:x∈toldL l v):x.1∈l∧x.2=v:=by
 unfold toldL at h
 obtain ⟨y,hy,rfl⟩:=List.mem_map.1 h
 exact ⟨hy,rfl⟩
theorem toldL_in {l:List Int} {v x:Int} (h:x∈l):(x,v)∈toldL l v:=List.mem_map.2 ⟨x,h,rfl⟩
theorem toldL_dist {l:List Int} (v:Int) (h:l.Pairwise (·<·)):(toldL l v).Pairwise (fun a b=>a.1≠b.1):=by
 unfold toldL
 rw [List.pairwise_map]
 exact h.imp (fun h=>by dsimp only; omega)
theorem gone_sorted {l:List (Int × Int)} (hp:l.Pairwise (fun a b=>a.1<b.1)) (who key:Int):(goneL who key l).Pairwise (·<·):=by
 unfold goneL
 rw [List.pairwise_map]
 exact hp.filter _
theorem gone_in {l:List (Int × Int)} {who key x:Int} (h:x∈goneL who key l):∃ r∈l,r.1=x∧outB who key r=true:=by
 unfold goneL at h
 obtain ⟨r,hr,rfl⟩:=List.mem_map.1 h
 obtain ⟨h1,h2⟩:=List.mem_filter.1 hr
 exact ⟨r,h1,rfl,h2⟩
theorem others_in {l:List (Int × Int)} {who:Int} {r:Int × Int} (h:r∈l) (hw:r.1≠who):r.1∈othersL who l:=by
 unfold othersL without
 exact List.mem_map.2 ⟨r,List.mem_filter.2 ⟨h,by simpa using hw⟩,rfl⟩
theorem preserve_regs (s:St) (c:Cmd):(preserve s c).1.regs=s.regs:=by unfold preserve; (repeat' split) <;> rfl
structure ToldF (s t:St) (who:Int) (lt:List (Int × Int)):Prop where
 mem:∀ x∈lt,x.1≠who∧keyOf s.regs x.1≠0
 dist:lt.Pairwise (fun a b=>a.1≠b.1)
 lost:∀ r∈s.regs,r.1≠who→¬ 0<keyOf t.regs r.1→toldTo lt r.1=1∨toldTo lt r.1=3
theorem ToldF.kept {s t:St} {who:Int} {lt:List (Int × Int)} (g:Good s) (mem:∀ x∈lt,x.1≠who∧keyOf s.regs x.1≠0) (dist:lt.Pairwise (fun a b=>a.1≠b.1)) (h:∀ x,x≠who→keyOf t.regs x=keyOf s.regs x):ToldF s t who lt :=
 ⟨mem,dist,fun r hr hw hk=>by
  exfalso
  apply hk
  rw [h _ hw]
  exact g.kpos (keyOf_of_mem s.regs (fun r hr=>(g.bounds r hr).2.2.1) r hr)⟩
theorem Good.key_mem {s:St} (g:Good s) {r:Int × Int} (h:r∈s.regs):keyOf s.regs r.1≠0:=keyOf_of_mem s.regs (fun r hr=>(g.bounds r hr).2.2.1) r h
theorem do_told {s:St} (g:Good s) {c:Cmd} {r:St} {lt:List (Int × Int)} (h:pdo s c=(r,lt,0)) (hop:1≤c.op):ToldF s r c.who lt:=by
 obtain ⟨r0,hr⟩:=pdo_ok h
 have ha:=hr.acts
 have h6:=hr.op
 obtain ⟨e1,e2,e3,-,-⟩:=hr.res
 have nil:∀ x∈([]:List (Int × Int)),x.1≠c.who∧keyOf s.regs x.1≠0:=fun x hx=>by simp at hx
 have oth:∀ v,∀ x∈toldL (othersL c.who s.regs) v,x.1≠c.who∧keyOf s.regs x.1≠0:=by
  intro v x hx
  obtain ⟨h1,r,hr,e⟩:=others_mem (toldL_mem hx).1
  exact ⟨h1,by rw [← e]; exact g.key_mem hr⟩
 rcases (by omega:(c.op=1∨c.op=2)∨c.op=3∨c.op=4∨c.op=5∨c.op=6) with h1 | h1 | h1 | h1 | h1
 ·unfold pacts at ha
  rw [if_pos h1] at ha
  have hreg:(pregister s c).1.regs=withL s.regs c.who c.new:=by unfold pregister; dsimp only; (repeat' split) <;> rfl
  have hlt:(pregister s c).2=[]∨(pregister s c).2=toldL (othersL c.who (withL s.regs c.who c.new)) 2:=by
   unfold pregister; dsimp only
   repeat' split
   all_goals (first | exact .inl rfl | exact .inr rfl)
  simp only [Prod.mk.injEq,and_true] at ha
  obtain ⟨a1,a2⟩:=ha
  rw [a1] at hreg
  rw [a2] at hlt
  have hk:∀ x,x≠c.who→keyOf r.regs x=keyOf s.regs x:=fun x hx=>by rw [e1,hreg]; exact keyOf_with _ _ _ _ hx
  rcases hlt with rfl | rfl
  ·exact ToldF.kept g nil List.Pairwise.nil hk
  ·rw [others_with]
   exact ToldF.kept g (oth 2) (toldL_dist 2 (others_sorted g.sorted)) hk
 ·unfold pacts at ha
  rw [if_neg (by omega),if_pos h1] at ha
  simp only [Prod.mk.injEq] at ha
  obtain ⟨a1,rfl,a3⟩:=ha
  have:=(preserve_regs s c)
  rw [a1] at this
  exact ToldF.kept g nil List.Pairwise.nil (fun x _=>by rw [e1,this])
 ·unfold pacts at ha
  rw [if_neg (by omega),if_neg (by omega),if_pos h1] at ha
  have hreg:r0.regs=s.regs∧(lt=[]∨lt=toldL (othersL c.who s.regs) 2):=by
   unfold prelease at ha
   repeat' split at ha
   all_goals (first | (cases ha; done) | (cases ha; exact ⟨rfl,.inl rfl⟩) | (cases ha; exact ⟨rfl,.inr rfl⟩))
  obtain ⟨h2,rfl | rfl⟩:=hreg
  ·exact ToldF.kept g nil List.Pairwise.nil (fun x _=>by rw [e1,h2])
  ·exact ToldF.kept g (oth 2) (toldL_dist 2 (others_sorted g.sorted)) (fun x _=>by rw [e1,h2])
 ·unfold pacts at ha
  rw [if_neg (by omega),if_neg (by omega),if_neg (by omega),if_pos h1] at ha
  cases ha
  exact ⟨oth 3,toldL_dist 3 (others_sorted g.sorted),fun r hr hw _=>.inr (toldTo_mem (toldL_dist 3 (others_sorted g.sorted)) (toldL_in (others_in hr hw)))⟩
 ·unfold pacts at ha
  rw [if_neg (by omega),if_neg (by omega),if_neg (by omega),if_neg (by omega),if_pos h1] at ha
  have hgone:∀ x∈toldL (goneL c.who c.new s.regs) 1,x.1≠c.who∧keyOf s.regs x.1≠0:=by
   intro x hx
   obtain ⟨r,hr,e,ho⟩:=gone_in (toldL_mem hx).1
   unfold outB at ho
   rw [decide_eq_true_eq] at ho
   exact ⟨by rw [← e]; exact ho.1,by rw [← e]; exact g.key_mem hr⟩
  have hoth:∀ x∈toldL (othersL c.who (putOut s.regs (goneL c.who c.new s.regs))) 2,x.1≠c.who∧keyOf s.regs x.1≠0:=by
   intro x hx
   obtain ⟨h1,r,hr,e⟩:=others_mem (toldL_mem hx).1
   exact ⟨h1,by rw [← e]; exact g.key_mem (out_mem g hr).1⟩
  have hgs:=gone_sorted g.sorted c.who c.new
  have hcross:∀ x∈toldL (goneL c.who c.new s.regs) 1,∀ y∈toldL (othersL c.who (putOut s.regs (goneL c.who c.new s.regs))) 2,x.1≠y.1:=by
   intro x hx y hy exy
   obtain ⟨r,hr,e,ho⟩:=gone_in (toldL_mem hx).1
   obtain ⟨_,q,hq,e'⟩:=others_mem (toldL_mem hy).1
   obtain ⟨hq1,hq2⟩:=out_mem g hq
   have:=sorted_inj g.sorted hr hq1 (by rw [e,e']; exact exy)
   rw [this,hq2] at ho
   cases ho
  have hregs:r0.regs=putOut s.regs (goneL c.who c.new s.regs)∧(lt=toldL (goneL c.who c.new s.regs) 1∨lt=toldL (goneL c.who c.new s.regs) 1 ++ toldL (othersL c.who (putOut s.regs (goneL c.who c.new s.regs))) 2):=by
   rcases preempt_ok ha with ⟨-,rfl,rfl⟩ | ⟨-,-,rfl,rfl⟩
   ·refine ⟨rfl,?_⟩
    split
    ·exact .inr rfl
    ·exact .inl (List.append_nil _)
   ·exact ⟨rfl,.inl rfl⟩
  obtain ⟨hreg,hlt⟩:=hregs
  have hlost:∀ x∈s.regs,x.1≠c.who→¬ 0<keyOf r.regs x.1→(x.1,1)∈toldL (goneL c.who c.new s.regs) 1:=by
   intro x hx hw hk
   refine toldL_in ?_
   cases ho:outB c.who c.new x
   ·exfalso
    apply hk
    rw [e1,hreg,out_list g,keyOf_filter_keep]
    ·exact g.kpos (g.key_mem hx)
    ·intro y hy e
     rw [sorted_inj g.sorted hy hx e,ho]; rfl
   ·unfold goneL
    exact List.mem_map.2 ⟨x,List.mem_filter.2 ⟨hx,ho⟩,rfl⟩
  rcases hlt with rfl | rfl
  ·exact ⟨hgone,toldL_dist 1 hgs,fun x hx hw hk=>.inl (toldTo_mem (toldL_dist 1 hgs) (hlost x hx hw hk))⟩
  ·have hd:(toldL (goneL c.who c.new s.regs) 1 ++ toldL (othersL c.who (putOut s.regs (goneL c.who c.new s.regs))) 2).Pairwise (fun a b=>a.1≠b.1) :=
    List.pairwise_append.2 ⟨toldL_dist 1 hgs,toldL_dist 2 (others_sorted (out_good g c.who c.new).2),hcross⟩
   refine ⟨fun x hx=>?_,hd,fun x hx hw hk=>.inl (toldTo_mem hd (List.mem_append_left _ (hlost x hx hw hk)))⟩
   rcases List.mem_append.1 hx with h | h
   ·exact hgone x h
   ·exact hoth x h
end Go.Proofs.YtajegiifabfcjaaGreatDoor
namespace Go.Proofs.YtajegiifabfcjaaGreatDoor
open Go.RowKit Go.Sort
theorem stage_zero {b:Bool} {x m r:Int} (h:stage b x m r=0):0≤x∧x≤m∧(b=false→x=0)∧r=0:=by
 unfold stage at h
 split at h
 ·cases h
 ·rename_i h1
  split at h
  ·cases h
  ·refine ⟨by omega,by omega,fun e=>?_,h⟩
   by_cases hx:x=0
   ·exact hx
   ·exact absurd ⟨e,hx⟩ h1
theorem cmd_ok {c:Cmd} (h:cmdFault c=0):CmdOk c:=by
 unfold cmdFault at h
 split at h
 ·cases h
 ·rename_i h1
  split at h
  ·cases h
  ·rename_i h2
   obtain ⟨k1,k2,-,h⟩:=stage_zero h
   obtain ⟨n1,n2,-,h⟩:=stage_zero h
   obtain ⟨a1,a2,-,h⟩:=stage_zero h
   unfold cfP at h
   split at h
   ·cases h
   ·rename_i h3
    refine ⟨by omega,by omega,⟨k1,k2⟩,⟨n1,n2⟩,fun ho=>?_⟩
    cases hm:typeMay c.typ
    ·exact absurd (by simp [badParts,ho,hm]) h3
    ·rfl
end Go.Proofs.YtajegiifabfcjaaGreatDoor
namespace Go.Proofs.YtajegiifabfcjaaGreatDoor
open Go.RowKit
structure TI (n:Nat) (S:Cel→Prop) (B:Int) (t:Tg):Prop where
 kd:KD n t.k.d t.k.num t.k.ep t.k.s
 fuse:t.k.d.fuse=-1
 kb:t.k.num≤B
 eb:t.k.ep≤B
 qi:QI t.g t.k.ep
 box:t.b.ok
 n0:0≤t.num∧t.num≤B
 t0:0≤t.tag∧t.tag≤B
 fl:t.fly.length≤40
 msg:∀ m∈t.fly,0≤m.tt∧m.tt<3∧0≤m.at'∧m.at'<8∧m.c.e≤t.k.ep∧1≤m.tag∧m.tag≤t.tag∧S m.c
 wl:t.wait.length≤6
 wt:∀ w∈t.wait,1≤w.tag∧w.tag≤t.tag∧w.hv.length≤1
 ws:t.wait.Pairwise (fun a b=>a.tag<b.tag)
 dn:∀ x∈t.done,1≤x∧x≤t.tag
 fa:Fa S
 al:AllC S t.g
 sb:∀ x,S x→x.e<t.k.ep∨(x.e=t.k.ep∧x.n≤t.num)
section
variable {n:Nat} {S:Cel→Prop} {B:Int} {t:Tg}
theorem TI.e1 (h:TI n S B t):1≤t.k.ep∧t.k.ep≤1000000:=⟨h.kd.place.k.e0,h.kd.place.k.e1⟩
theorem TI.good (h:TI n S B t):Good t.k.s:=h.kd.place.k.g
theorem QI.ready (h:QI t.g t.k.ep):t.ready=t:=by unfold Tg.ready; rw [h.fence]
theorem QI.isReady (h:QI t.g t.k.ep):t.isReady=decide (2≤(t.g.mem t.k.ep).length):=by unfold Tg.isReady; rw [h.fence]
theorem TI.ready (h:TI n S B t):t.ready=t:=h.qi.ready
theorem TI.isReady (h:TI n S B t):t.isReady=decide (2≤(t.g.mem t.k.ep).length):=h.qi.isReady
theorem TI.mono (h:TI n S B t) {C:Int} (hB:B≤C):TI n S C t :=
 ⟨h.kd,h.fuse,by have:=h.kb; omega,by have:=h.eb; omega,h.qi,h.box,by have:=h.n0; omega,by have:=h.t0; omega,h.fl,h.msg,h.wl,h.wt,h.ws,h.dn,h.fa,h.al,h.sb⟩
theorem keep_live {k:Kp} (hk:KD n k.d k.num k.ep k.s) (hf:k.d.fuse=-1) (hn:k.num<1000000000000000) {ep:Int} {s:St} (he:1≤ep∧ep≤1000000) (hs:Good s) :
  (k.keep n ep s).2=0∧(k.keep n ep s).1.num=k.num+1∧(k.keep n ep s).1.ep=ep∧(k.keep n ep s).1.s=s∧KD n (k.keep n ep s).1.d (k.num+1) ep s∧(k.keep n ep s).1.d.fuse=-1:=by
 have hz:stateFault s=0:=(good_iff s).2 hs
 obtain ⟨l1,l2⟩:=layD_live (n:=n) hf hk.up (par (k.num+1)) (kA (k.num+1) ep s) (kB (k.num+1) ep s)
 obtain ⟨-,l3,-⟩:=lay_law hk hn he hs
 unfold Kp.keep
 rw [if_neg (by omega),if_neg (by omega)]
 unfold Kp.lay
 dsimp only
 rw [if_pos l1]
 exact ⟨rfl,rfl,rfl,rfl,l3 l1,l2⟩
theorem next_core (hkd:KD n t.k.d t.k.num t.k.ep t.k.s) (hfu:t.k.d.fuse=-1) (hqi:QI t.g t.k.ep) (hnum:t.k.num+2<1000000000000000) {s:St} (hs:Good s) :
  (2≤(t.g.mem t.k.ep).length→t.k.ep≠1000000→(t.next n s).2=0∧∃ d,(t.next n s).1={ t with k:=⟨d,t.k.num+2,t.k.ep+1,s⟩,g:=t.g.fence (t.k.ep+1),num:=0,wait:=[] }∧KD n d (t.k.num+2) (t.k.ep+1) s∧d.fuse=-1) ∧
  (¬ 2≤(t.g.mem t.k.ep).length→t.next n s=(t,7))∧(2≤(t.g.mem t.k.ep).length→t.k.ep=1000000→t.next n s=(t,6)):=by
 refine ⟨fun hm he=>?_,fun hm=>?_,fun hm he=>?_⟩
 ·have h1:1≤t.k.ep∧t.k.ep≤1000000:=⟨hkd.place.k.e0,hkd.place.k.e1⟩
  obtain ⟨k1,k2,k3,k4,k5,k6⟩:=keep_live hkd hfu (by omega) (ep:=t.k.ep+1) (s:=t.k.s) (by omega) hkd.place.k.g
  obtain ⟨q1,q2,-⟩:=fence_next hqi hm
  obtain ⟨kk,hkk⟩:∃ kk,kk=(t.k.keep n (t.k.ep+1) t.k.s).1:=⟨_,rfl⟩
  rw [← hkk] at k2 k3 k4 k5 k6
  obtain ⟨m1,m2,m3,m4,m5,m6⟩:=keep_live (k:=kk) (by rw [k2,k3,k4]; exact k5) k6 (by rw [k2]; omega) (ep:=t.k.ep+1) (s:=s) (by omega) hs
  unfold Tg.next
  rw [hqi.isReady,if_neg (by simp [hm]),if_neg he,hqi.ready]
  unfold Tg.keep
  dsimp only
  rw [if_neg (by simp [k1]),← hkk]
  have e2:({ t with k:=kk }:Tg).fresh.isReady=true:=by
   unfold Tg.isReady Tg.fresh
   dsimp only
   rw [k3,q2]
   exact decide_eq_true hm
  rw [if_neg (by rw [e2]; simp)]
  unfold Tg.ready Tg.fresh
  dsimp only
  rw [k3]
  refine ⟨m1,(kk.keep n (t.k.ep+1) s).1.d,?_,?_,m6⟩
  ·congr 1
   cases hq:(kk.keep n (t.k.ep+1) s).1
   rw [hq] at m2 m3 m4
   dsimp only at m2 m3 m4 ⊢
   rw [m2,m3,m4,k2]
   congr 1
   omega
  ·have:=m5
   rw [k2] at this
   rw [show t.k.num+2=t.k.num+1+1 by omega]
   exact this
 ·unfold Tg.next
  rw [hqi.isReady,if_pos (by simp; omega),hqi.ready]
 ·unfold Tg.next
  rw [hqi.isReady,if_neg (by simp [hm]),if_pos he,hqi.ready]
theorem next_live (h:TI n S B t) (hB:B+2<1000000000000000) {s:St} (hs:Good s) :
  (2≤(t.g.mem t.k.ep).length→t.k.ep≠1000000→(t.next n s).2=0∧∃ d,(t.next n s).1={ t with k:=⟨d,t.k.num+2,t.k.ep+1,s⟩,g:=t.g.fence (t.k.ep+1),num:=0,wait:=[] }∧KD n d (t.k.num+2) (t.k.ep+1) s∧d.fuse=-1) ∧
  (¬ 2≤(t.g.mem t.k.ep).length→t.next n s=(t,7))∧(2≤(t.g.mem t.k.ep).length→t.k.ep=1000000→t.next n s=(t,6)) :=
 next_core h.kd h.fuse h.qi (by have:=h.kb; omega) hs
theorem TI.nexted (h:TI n S B t) {d:Dk} {s:St} {b:Bl} (hm:2≤(t.g.mem t.k.ep).length) (hd:KD n d (t.k.num+2) (t.k.ep+1) s) (hf:d.fuse=-1) (hb:b.ok) :
  TI n S (B+2) { t with k:=⟨d,t.k.num+2,t.k.ep+1,s⟩,g:=t.g.fence (t.k.ep+1),num:=0,wait:=[],b:=b }:=by
 have hkb:=h.kb
 have heb:=h.eb
 have hn0:=h.n0
 have ht0:=h.t0
 refine ⟨hd,hf,by show t.k.num+2≤_; omega,by show t.k.ep+1≤_; omega,(fence_next h.qi hm).1,hb,⟨by show (0:Int)≤0; omega,by show (0:Int)≤_; omega⟩,⟨ht0.1,by show t.tag≤_; omega⟩,h.fl,fun m hm=>?_,by simp,(fun w hw=>by cases hw),List.Pairwise.nil,h.dn,h.fa,h.al.fence h.fa.z _,fun x hx=>?_⟩
 ·obtain ⟨a,b,c,d,e,f,g,i⟩:=h.msg m hm
  exact ⟨a,b,c,d,by show m.c.e≤t.k.ep+1; omega,f,g,i⟩
 ·left
  show x.e<t.k.ep+1
  rcases h.sb x hx with hx | hx <;> omega
theorem TI.kept (h:TI n S B t) (hB:B+2<1000000000000000) {s:St} (hs:Good s):(t.keep n t.k.ep s).2=0∧∃ d,(t.keep n t.k.ep s).1={ t with k:=⟨d,t.k.num+1,t.k.ep,s⟩ }∧KD n d (t.k.num+1) t.k.ep s∧d.fuse=-1:=by
 have hkb:=h.kb
 obtain ⟨k1,k2,k3,k4,k5,k6⟩:=keep_live h.kd h.fuse (by omega) (ep:=t.k.ep) (s:=s) h.e1 hs
 unfold Tg.keep
 dsimp only
 refine ⟨k1,_,?_,k5,k6⟩
 congr 1
 cases hq:(t.k.keep n t.k.ep s).1
 rw [hq] at k2 k3 k4
 dsimp only at k2 k3 k4 ⊢
 rw [k2,k3,k4]
theorem TI.setK (h:TI n S B t) {d:Dk} {s:St} {b:Bl} (hd:KD n d (t.k.num+1) t.k.ep s) (hf:d.fuse=-1) (hb:b.ok):TI n S (B+2) { t with k:=⟨d,t.k.num+1,t.k.ep,s⟩,b:=b }:=by
 have hkb:=h.kb
 have heb:=h.eb
 have hn0:=h.n0
 have ht0:=h.t0
 exact ⟨hd,hf,by show t.k.num+1≤_; omega,by show t.k.ep≤_; omega,h.qi,hb,⟨hn0.1,by show t.num≤_; omega⟩,⟨ht0.1,by show t.tag≤_; omega⟩,h.fl,h.msg,h.wl,h.wt,h.ws,h.dn,h.fa,h.al,h.sb⟩
theorem Bl.ok.set {b:Bl} (h:b.ok) (k:Int) {l:List Int} (hl:l.length≤5) (hn:∀ x∈l,1≤x∧x≤4):(b.set k l).ok:=by
 have key:∀ j,(b.set k l).get j=l∨(b.set k l).get j=b.get j:=by
  intro j
  unfold Bl.set Bl.get
  repeat' split
  all_goals first | exact .inl rfl | exact .inr rfl
 constructor
 ·intro j; rcases key j with e | e <;> rw [e]
  ·exact hl
  ·exact h.len j
 ·intro j x hx
  rcases key j with e | e <;> rw [e] at hx
  ·exact hn x hx
  ·exact h.num j x hx
theorem addL_mem {l:List Int} {x y:Int} (h:y∈addL l x):y∈l∨y=x:=by
 unfold addL at h
 split at h
 ·exact .inl h
 ·have:=List.mem_of_mem_drop h
  simpa using this
theorem Bl.ok.add {b:Bl} (h:b.ok) {x:Int × Int} (hx:1≤x.2∧x.2≤4):(b.add x).ok :=
 h.set _ (addL_len _ _ (h.len _)) (fun y hy=>by
  rcases addL_mem hy with e | e
  ·exact h.num _ y e
  ·omega)
theorem Bl.ok.adds:∀ {l:List (Int × Int)} {b:Bl},b.ok→(∀ x∈l,1≤x.2∧x.2≤4)→(b.adds l).ok
 | [],_,h,_=>h
 | x :: l,b,h,hl=>Bl.ok.adds (b:=b.add x) (h.add (hl x (by simp))) (fun y hy=>hl y (by simp [hy]))
theorem Bl.pow_ok:Bl.pow.ok:=by
 have key:∀ j,Bl.pow.get j=[4]:=by
  intro j
  unfold Bl.get Bl.pow
  repeat' split
  all_goals rfl
 exact ⟨fun j=>by rw [key]; decide,fun j x hx=>by rw [key] at hx; simp at hx; omega⟩
theorem Bl.zero_ok:Bl.zero.ok:=by
 have key:∀ j,Bl.zero.get j=[]:=by
  intro j
  unfold Bl.get Bl.zero
  repeat' split
  all_goals rfl
 exact ⟨fun j=>by rw [key]; decide,fun j x hx=>by rw [key] at hx; cases hx⟩
theorem pdo_what (s:St) (c:Cmd):∀ x∈(pdo s c).2.1,1≤x.2∧x.2≤3:=by
 have w:∀ {l:List Int} {k:Int},1≤k∧k≤3→∀ x∈toldL l k,1≤x.2∧x.2≤3:=fun hk x hx=>by
  unfold toldL at hx
  obtain ⟨y,-,rfl⟩:=List.mem_map.1 hx
  exact hk
 have nil:∀ x∈([]:List (Int × Int)),1≤x.2∧x.2≤3:=fun x hx=>by cases hx
 have app:∀ {l m:List (Int × Int)},(∀ x∈l,1≤x.2∧x.2≤3)→(∀ x∈m,1≤x.2∧x.2≤3)→∀ x∈l ++ m,1≤x.2∧x.2≤3:=fun h g x hx=>by
  rcases List.mem_append.1 hx with e | e
  ·exact h x e
  ·exact g x e
 have reg:∀ x∈(pregister s c).2,1≤x.2∧x.2≤3:=by
  unfold pregister
  dsimp only
  repeat' split
  all_goals first | exact nil | exact w (k:=2) (by omega)
 have rel:∀ x∈(prelease s c).2.1,1≤x.2∧x.2≤3:=by
  unfold prelease
  repeat' split
  all_goals first | exact nil | exact w (k:=2) (by omega)
 have pre:∀ x∈(ppreempt s c).2.1,1≤x.2∧x.2≤3:=by
  unfold ppreempt
  dsimp only
  repeat' split
  all_goals first | exact nil | exact w (k:=1) (by omega) | exact app (w (k:=1) (by omega)) (w (k:=2) (by omega)) | exact app (w (k:=1) (by omega)) nil
 have acts:∀ x∈(pacts s c).2.1,1≤x.2∧x.2≤3:=by
  unfold pacts
  repeat' split
  all_goals first | exact nil | exact reg | exact rel | exact pre | exact w (k:=3) (by omega)
 unfold pdo
 repeat' split
 all_goals first | exact nil | exact acts
end
section
variable {n:Nat} {S:Cel→Prop} {B:Int} {t:Tg}
inductive Ordered (n:Nat) (t:Tg) (c:Cmd):Tg→Int→Prop where
 | bad {f:Int} (hf:f≠0) (h:(pdo t.k.s c).2.2=f):Ordered n t c t f
 | less (d:Dk) (l:lessB pmay t.k.s (pdo t.k.s c).1=true) (h0:(pdo t.k.s c).2.2=0) (hm:2≤(t.g.mem t.k.ep).length) (hd:KD n d (t.k.num+2) (t.k.ep+1) (pdo t.k.s c).1) (hf:d.fuse=-1) :
   Ordered n t c { t with k:=⟨d,t.k.num+2,t.k.ep+1,(pdo t.k.s c).1⟩,g:=t.g.fence (t.k.ep+1),num:=0,wait:=[],b:=t.b.adds (pdo t.k.s c).2.1 } 0
 | busy (f:Int) (hf:f=7∨f=6) (hb:f=7→¬ 2≤(t.g.mem t.k.ep).length) (h6:f=6→t.k.ep=1000000) (l:lessB pmay t.k.s (pdo t.k.s c).1=true):Ordered n t c t f
 | more (d:Dk) (l:lessB pmay t.k.s (pdo t.k.s c).1=false) (h0:(pdo t.k.s c).2.2=0) (hd:KD n d (t.k.num+1) t.k.ep (pdo t.k.s c).1) (hf:d.fuse=-1) :
   Ordered n t c { t with k:=⟨d,t.k.num+1,t.k.ep,(pdo t.k.s c).1⟩,b:=t.b.adds (pdo t.k.s c).2.1 } 0
theorem pdo_good {s:St} (g:Good s) {c:Cmd} (hc:CmdOk c) (h:(pdo s c).2.2=0):Good (pdo s c).1:=by
 refine (do_order g hc (r:=(pdo s c).1) (lt:=(pdo s c).2.1) ?_).1
 rw [← h]
theorem order_live (h:TI n S B t) (hB:B+2<1000000000000000) {c:Cmd} (hc:CmdOk c):Ordered n t c (t.order n c).1 (t.order n c).2:=by
 unfold Tg.order
 by_cases h0:(pdo t.k.s c).2.2=0
 ·rw [if_neg (by simp [h0])]
  have hg:=pdo_good h.good hc h0
  dsimp only
  by_cases hl:lessB pmay t.k.s (pdo t.k.s c).1=true
  ·rw [if_pos hl]
   obtain ⟨n1,n2,n3⟩:=next_live h hB hg
   by_cases hm:2≤(t.g.mem t.k.ep).length
   ·by_cases he:t.k.ep=1000000
    ·rw [n3 hm he]
     exact .busy 6 (.inr rfl) (fun e=>by cases e) (fun _=>he) hl
    ·obtain ⟨e1,d,e2,e3,e4⟩:=n1 hm he
     rw [if_neg (by simp [e1]),e2]
     exact .less d hl h0 hm e3 e4
   ·rw [n2 hm]
    exact .busy 7 (.inl rfl) (fun _=>hm) (fun e=>by cases e) hl
  ·rw [if_neg hl]
   obtain ⟨e1,d,e2,e3,e4⟩:=h.kept hB hg
   rw [if_neg (by simp [e1]),e2]
   exact .more d (by simpa using hl) h0 e3 e4
 ·rw [if_pos h0]
  exact .bad h0 rfl
theorem Ordered.ti (h:TI n S B t) {c:Cmd} {t':Tg} {f:Int} (o:Ordered n t c t' f):TI n S (B+2) t':=by
 have hb:∀ x∈(pdo t.k.s c).2.1,1≤x.2∧x.2≤4:=fun x hx=>by have:=pdo_what t.k.s c x hx; omega
 cases o with
 | bad=>exact h.mono (by omega)
 | less d l h0 hm hd hf=>exact h.nexted hm hd hf (h.box.adds hb)
 | busy=>exact h.mono (by omega)
 | more d l h0 hd hf=>exact h.setK hd hf (h.box.adds hb)
theorem TI.setG (h:TI n S B t) {g:Gp} (hg:QI g t.k.ep) (ha:AllC S g):TI n S B { t with g:=g } :=
 ⟨h.kd,h.fuse,h.kb,h.eb,hg,h.box,h.n0,h.t0,h.fl,h.msg,h.wl,h.wt,h.ws,h.dn,h.fa,ha,h.sb⟩
theorem TI.setB (h:TI n S B t) {b:Bl} (hb:b.ok):TI n S B { t with b:=b } :=
 ⟨h.kd,h.fuse,h.kb,h.eb,h.qi,hb,h.n0,h.t0,h.fl,h.msg,h.wl,h.wt,h.ws,h.dn,h.fa,h.al,h.sb⟩
theorem TI.setFly (h:TI n S B t) {l:List Ms} (hl:l.length≤40) (hm:∀ m∈l,m∈t.fly):TI n S B { t with fly:=l } :=
 ⟨h.kd,h.fuse,h.kb,h.eb,h.qi,h.box,h.n0,h.t0,hl,fun m hx=>h.msg m (hm m hx),h.wl,h.wt,h.ws,h.dn,h.fa,h.al,h.sb⟩
theorem tread_live (h:TI n S B t) (k:Nat) :
  (¬ 2≤(t.g.mem t.k.ep).length→t.read k=(t,⟨#[]⟩,7)) ∧
  (2≤(t.g.mem t.k.ep).length→t.read k=({ t with g:=t.g.read t.k.ep k },(bestL k (t.g.frm t.k.ep)).d,0)):=by
 refine ⟨fun hm=>?_,fun hm=>?_⟩
 ·unfold Tg.read
  rw [h.isReady,if_pos (by simp; omega),h.ready]
 ·unfold Tg.read
  rw [h.isReady,if_neg (by simp [hm]),h.ready,show t.g.readC t.k.ep k=bestL k (t.g.frm t.k.ep) from if_pos hm]
theorem TI.read (h:TI n S B t) (k:Nat):TI n S B (t.read k).1:=by
 by_cases hm:2≤(t.g.mem t.k.ep).length
 ·rw [(tread_live h k).2 hm]
  exact h.setG (h.qi.read k) (h.al.read h.fa.z _ _)
 ·rw [(tread_live h k).1 hm]
  exact h
theorem TI.write (h:TI n S B t) {c:Cmd} (ha:0≤c.at'∧c.at'<8):∃ S',(∀ x,S x→S' x)∧TI n S' (B+1) (t.write c).1∧(t.write c).1.k=t.k∧(t.write c).1.g=t.g∧(t.write c).1.b=t.b:=by
 unfold Tg.write
 split
 ·exact ⟨S,fun _ hx=>hx,h.mono (by omega),rfl,rfl,rfl⟩
 ·rename_i hc
  have hn0:=h.n0
  have ht0:=h.t0
  have hkb:=h.kb
  have heb:=h.eb
  have hwl:=h.wl
  obtain ⟨x,hx⟩:∃ x:Cel,x=⟨t.k.ep,t.num+1,c.data⟩:=⟨_,rfl⟩
  have he:=h.e1
  have hnew:¬ S x:=fun hS=>by
   rcases h.sb x hS with e | e <;> subst hx <;> dsimp only at e <;> omega
  refine ⟨fun y=>S y∨y=x,fun _ hy=>.inl hy,⟨h.kd,h.fuse,by show t.k.num≤_; omega,by show t.k.ep≤_; omega,h.qi,h.box,?_,?_,?_,?_,?_,?_,?_,?_,?_,?_,?_⟩,rfl,rfl,rfl⟩
  ·show 0≤t.num+1∧t.num+1≤_; omega
  ·show 0≤t.tag+1∧t.tag+1≤_; omega
  ·simp only [List.length_append,List.length_cons,List.length_nil]; omega
  ·intro m hm
   rcases List.mem_append.1 hm with e | e
   ·obtain ⟨a1,a2,a3,a4,a5,a6,a7,a8⟩:=h.msg m e
    exact ⟨a1,a2,a3,a4,a5,a6,by show m.tag≤t.tag+1; omega,.inl a8⟩
   ·simp only [List.mem_cons,List.mem_nil_iff,or_false] at e
    have key:∀ i:Int,0≤i∧i<3→m=t.msg c i→0≤m.tt∧m.tt<3∧0≤m.at'∧m.at'<8∧m.c.e≤t.k.ep∧1≤m.tag∧m.tag≤t.tag+1∧(S m.c∨m.c=x):=by
     rintro i hi rfl
     exact ⟨hi.1,hi.2,ha.1,ha.2,by show t.k.ep≤t.k.ep; omega,by show 1≤t.tag+1; omega,by show t.tag+1≤t.tag+1; omega,.inr hx.symm⟩
    rcases e with e | e | e
    ·exact key 0 (by omega) e
    ·exact key 1 (by omega) e
    ·exact key 2 (by omega) e
  ·simp only [List.length_append,List.length_cons,List.length_nil]; omega
  ·intro w hw
   rcases List.mem_append.1 hw with e | e
   ·have:=h.wt w e; exact ⟨this.1,by show w.tag≤t.tag+1; omega,this.2.2⟩
   ·simp only [List.mem_singleton] at e
    subst e
    exact ⟨by show 1≤t.tag+1; omega,by show t.tag+1≤t.tag+1; omega,by simp⟩
  ·rw [List.pairwise_append]
   refine ⟨h.ws,by simp,fun a hA b hb=>?_⟩
   simp only [List.mem_singleton] at hb
   subst hb
   have:=h.wt a hA
   show a.tag<t.tag+1
   omega
  ·intro y hy
   have:=h.dn y hy
   show 1≤y∧y≤t.tag+1
   omega
  ·refine ⟨.inl h.fa.z,?_⟩
   rintro a b (hA | rfl) (hb | rfl) e1 e2
   ·exact h.fa.uni a b hA hb e1 e2
   ·subst hx; rcases h.sb a hA with e | e <;> dsimp only at e1 e2 <;> omega
   ·subst hx; rcases h.sb b hb with e | e <;> dsimp only at e1 e2 <;> omega
   ·rfl
  ·exact h.al.mono fun y hy=>.inl hy
  ·rintro y (hy | rfl)
   ·rcases h.sb y hy with e | e
    ·exact .inl e
    ·right; show y.e=t.k.ep∧y.n≤t.num+1; omega
   ·right; subst hx; show t.k.ep=t.k.ep∧t.num+1≤t.num+1; omega
theorem fault_zero {c:Cmd} (h:cmdFault c=0):CmdOk c∧(7≤c.op→0≤c.at'∧c.at'<8)∧c.data.size≤8∧c.want.size≤8:=by
 refine ⟨cmd_ok h,?_⟩
 unfold cmdFault at h
 split at h
 ·cases h
 ·split at h
  ·cases h
  ·obtain ⟨k1,k2,-,h⟩:=stage_zero h
   obtain ⟨n1,n2,-,h⟩:=stage_zero h
   obtain ⟨a1,a2,-,h⟩:=stage_zero h
   unfold cfP at h
   split at h
   ·cases h
   ·unfold cfL at h
    split at h
    ·cases h
    ·exact ⟨fun _=>⟨a1,by omega⟩,by omega,by omega⟩
theorem TI.ask (h:TI n S B t) (hB:B+2<1000000000000000) (c:Cmd):∃ S',(∀ x,S x→S' x)∧TI n S' (B+2) (t.ask n c).1:=by
 have id:∃ S',(∀ x,S x→S' x)∧TI n S' (B+2) t:=⟨S,fun _ hx=>hx,h.mono (by omega)⟩
 unfold Tg.ask
 split
 ·exact id
 rename_i hf
 have hf0:cmdFault c=0:=by simpa using hf
 obtain ⟨hc,hat,-,-⟩:=fault_zero hf0
 split
 ·rename_i ht
  refine ⟨S,fun _ hx=>hx,TI.mono (B:=B) ?_ (by omega)⟩
  refine h.setB (h.box.set _ ?_ ?_)
  ·have:=h.box.len c.who; simp; omega
  ·exact fun x hx=>h.box.num _ x (List.mem_of_mem_tail hx)
 split
 ·exact ⟨S,fun _ hx=>hx,(order_live h hB hc).ti h⟩
 rename_i h6
 split
 ·exact id
 split
 ·exact ⟨S,fun _ hx=>hx,(h.read _).mono (by omega)⟩
 split
 ·rw [h.ready]; exact id
 have wr:∀ {u:Tg},TI n S B u→∃ S',(∀ x,S x→S' x)∧TI n S' (B+2) (u.doWrite c).1:=fun hu=>by
  obtain ⟨S',h1,h2,-⟩:=hu.write (c:=c) (hat (by omega))
  exact ⟨S',h1,h2.mono (by omega)⟩
 split
 ·rw [h.ready]
  unfold Tg.doComp
  dsimp only
  split
  ·exact ⟨S,fun _ hx=>hx,(h.read _).mono (by omega)⟩
  ·exact wr (h.read _)
 ·rw [h.ready]; exact wr h
theorem came_same (t:Tg) (m:Ms):(t.came m).k=t.k∧(t.came m).g=t.g∧(t.came m).b=t.b∧(t.came m).num=t.num∧(t.came m).tag=t.tag∧(t.came m).fly=t.fly:=by
 unfold Tg.came
 split
 ·exact ⟨rfl,rfl,rfl,rfl,rfl,rfl⟩
 ·split
  ·exact ⟨rfl,rfl,rfl,rfl,rfl,rfl⟩
  ·exact ⟨rfl,rfl,rfl,rfl,rfl,rfl⟩
theorem TI.came (h:TI n S B t) {m:Ms} (hm:1≤m.tag∧m.tag≤t.tag):TI n S B (t.came m):=by
 unfold Tg.came
 split
 ·exact h
 rename_i w hw
 have hwm:=List.mem_of_find?_eq_some hw
 have hwt:w.tag=m.tag:=by simpa using List.find?_some hw
 split
 ·refine ⟨h.kd,h.fuse,h.kb,h.eb,h.qi,h.box,h.n0,h.t0,h.fl,h.msg,?_,fun x hx=>h.wt x (List.mem_filter.1 hx).1,h.ws.filter _,?_,h.fa,h.al,h.sb⟩
  ·have:=List.length_filter_le (fun w=>decide (w.tag≠m.tag)) t.wait
   have:=h.wl
   dsimp only
   omega
  ·intro x hx
   dsimp only at hx
   split at hx
   ·exact h.dn x hx
   ·rcases List.mem_append.1 hx with e | e
    ·exact h.dn x e
    ·simp only [List.mem_singleton] at e; subst e; exact hm
 ·rename_i hlen
  refine ⟨h.kd,h.fuse,h.kb,h.eb,h.qi,h.box,h.n0,h.t0,h.fl,h.msg,by simpa using h.wl,fun x hx=>?_,?_,h.dn,h.fa,h.al,h.sb⟩
  ·dsimp only at hx
   obtain ⟨y,hy,rfl⟩:=List.mem_map.1 hx
   have hyw:=h.wt y hy
   split
   ·rename_i e
    have hyy:y=w:=by
     have hp:=h.ws
     by_cases hne:y=w
     ·exact hne
     ·rcases List.getElem_of_mem hy with ⟨i,hi,rfl⟩
      rcases List.getElem_of_mem hwm with ⟨j,hj,rfl⟩
      rw [List.pairwise_iff_getElem] at hp
      rcases Nat.lt_trichotomy i j with q | q | q
      ·have:=hp i j hi hj q; omega
      ·subst q; exact absurd rfl hne
      ·have:=hp j i hj hi q; omega
    subst hyy
    exact ⟨hyw.1,hyw.2.1,by omega⟩
   ·exact hyw
  ·dsimp only
   rw [List.pairwise_map]
   refine h.ws.imp fun {a b} hab=>?_
   have e:∀ a:Wt,(if a.tag=m.tag then a.put m.tt else a).tag=a.tag:=fun a=>by split <;> rfl
   rw [e,e]; exact hab
theorem fly_get {l:List Ms} {i:Int} (h:¬ (i<0∨(l.length:Int)≤i)):l.getD i.toNat ⟨0,0,Cel.zero,0⟩∈l:=by
 have hi:i.toNat<l.length:=by omega
 rw [List.getD_eq_getElem?_getD,List.getElem?_eq_getElem hi]
 exact List.getElem_mem hi
theorem TI.gone (h:TI n S B t) (i:Nat):TI n S B { t with fly:=t.fly.eraseIdx i } :=
 h.setFly (by have:=h.fl; have:=List.length_eraseIdx_le t.fly i; omega) (fun m hm=>List.mem_of_mem_eraseIdx hm)
theorem TI.deliver (h:TI n S B t) (i:Int) (stays:Bool):TI n S B (t.deliver i stays).1:=by
 unfold Tg.deliver
 split
 ·exact h
 rename_i hi
 have hm:=h.msg _ (fly_get hi)
 obtain ⟨m,hme⟩:∃ m,m=t.fly.getD i.toNat ⟨0,0,Cel.zero,0⟩:=⟨_,rfl⟩
 rw [← hme] at hm ⊢
 dsimp only
 have h1:TI n S B { t with fly:=if stays then t.fly else t.fly.eraseIdx i.toNat,g:=t.g.deliver m.tt.toNat m.at'.toNat m.c }:=by
  have h0:TI n S B { t with fly:=if stays then t.fly else t.fly.eraseIdx i.toNat }:=by
   cases stays
   ·exact h.gone _
   ·exact h
  exact h0.setG (h.qi.deliver (by omega) _) (h.al.deliver h.fa.z _ _ hm.2.2.2.2.2.2.2)
 split
 ·exact h1.came ⟨hm.2.2.2.2.2.1,hm.2.2.2.2.2.2.1⟩
 ·exact h1
theorem TI.lose (h:TI n S B t) (i:Int):TI n S B (t.lose i).1:=by
 unfold Tg.lose
 split
 ·exact h
 ·exact h.gone _
theorem TI.up (h:TI n S B t) (i:Int) (b:Bool):TI n S B (t.up i b).1:=by
 unfold Tg.up
 split
 ·exact h
 ·exact h.setG (h.qi.setU _ _) (h.al.setU _ _)
theorem TI.sync (h:TI n S B t) (i:Int):TI n S B (t.sync i).1:=by
 unfold Tg.sync
 split
 ·exact h
 split
 ·exact h.setG (h.qi.sync (by omega)) (h.al.sync h.fa.z _ _)
 ·exact h
theorem Good.lost {s:St} (h:Good s):Good s.lost:=by
 unfold St.lost
 split
 ·exact ⟨by dsimp only; omega,h.bounds,h.sorted,h.zero,h.typ,h.all,h.one⟩
 ·exact (good_iff _).1 rfl
theorem TI.power (h:TI n S B t) (hB:B+2<1000000000000000):TI n S (B+2) (t.power n).1:=by
 obtain ⟨n1,n2,n3⟩:=next_live h hB h.good.lost
 unfold Tg.power
 dsimp only
 by_cases hm:2≤(t.g.mem t.k.ep).length
 ·by_cases he:t.k.ep=1000000
  ·rw [n3 hm he]; exact h.mono (by omega)
  ·obtain ⟨e1,d,e2,e3,e4⟩:=n1 hm he
   rw [if_neg (by simp [e1]),e2]
   exact h.nexted hm e3 e4 Bl.pow_ok
 ·rw [n2 hm]; exact h.mono (by omega)
theorem new_live (h:TI n S B t) (hB:B+2<1000000000000000) :
  (2≤(t.g.mem t.k.ep).length→t.k.ep≠1000000→(Tg.new n t.k t.g).2=0∧∃ d,(Tg.new n t.k t.g).1=Tg.start ⟨d,t.k.num+2,t.k.ep+1,t.k.s⟩ (t.g.fence (t.k.ep+1))∧KD n d (t.k.num+2) (t.k.ep+1) t.k.s∧d.fuse=-1) ∧
  (¬ 2≤(t.g.mem t.k.ep).length→(Tg.new n t.k t.g).2=7)∧(2≤(t.g.mem t.k.ep).length→t.k.ep=1000000→(Tg.new n t.k t.g).2=6):=by
 obtain ⟨n1,n2,n3⟩:=next_core (n:=n) (t:=Tg.start t.k t.g) h.kd h.fuse h.qi (by have:=h.kb; show t.k.num+2<_; omega) h.good
 refine ⟨fun hm he=>n1 hm he,fun hm=>?_,fun hm he=>?_⟩
 ·unfold Tg.new; rw [n2 hm]
 ·unfold Tg.new; rw [n3 hm he]
theorem TI.new (h:TI n S B t) {d:Dk} (hm:2≤(t.g.mem t.k.ep).length) (hd:KD n d (t.k.num+2) (t.k.ep+1) t.k.s) (hf:d.fuse=-1):TI n S (B+2) (Tg.start ⟨d,t.k.num+2,t.k.ep+1,t.k.s⟩ (t.g.fence (t.k.ep+1))):=by
 have hkb:=h.kb
 have heb:=h.eb
 have hn0:=h.n0
 refine ⟨hd,hf,by show t.k.num+2≤_; omega,by show t.k.ep+1≤_; omega,(fence_next h.qi hm).1,Bl.zero_ok,⟨by show (0:Int)≤0; omega,by show (0:Int)≤B+2; omega⟩,⟨by show (0:Int)≤0; omega,by show (0:Int)≤B+2; omega⟩,by simp [Tg.start],(fun m hm=>by cases hm),by simp [Tg.start],(fun m hm=>by cases hm),List.Pairwise.nil,(fun m hm=>by cases hm),h.fa,h.al.fence h.fa.z _,fun x hx=>?_⟩
 left
 show x.e<t.k.ep+1
 rcases h.sb x hx with hx | hx <;> omega
end
end Go.Proofs.YtajegiifabfcjaaGreatDoor
