import Derived.Test.YtjalgpcigojpkaaGreatDoorQ18
namespace Go.Proofs.YtjalgpcigojpkaaGreatDoor
section
open Go.RowKit
theorem dE(x:Int)(p:Int × Int->Bool):∀(l:List (Int × Int)),(∀r∈l,r.1=x->p r=true)->keyOf (l.filter p) x=keyOf l x
 | [],_=>rfl
 | r :: l,h=>by
  have ih:=dE x p l (λy hy=>h y (by simp[hy]));by_cases hr:r.1=x
  .rw[List.filter_cons_of_pos (h r (by simp) hr)];unfold keyOf; rw[if_pos hr,if_pos hr]
  .have e:keyOf (r :: l) x=keyOf l x:=by rw[keyOf,if_neg hr]
   rw[e];cases hp:p r
   .rw[List.filter_cons_of_neg (by simp[hp])]; exact ih
   .rw[List.filter_cons_of_pos hp,keyOf,if_neg hr]; exact ih
theorem uA:∀ {l:List (Int × Int)},l.Pairwise (λa b=>a.1<b.1)->∀r∈l,keyOf l r.1=r.2
 | x :: l,hp,r,hr=>by
  rw[List.pairwise_cons]at hp;unfold keyOf
  rcases List.mem_cons.1 hr with rfl | h
  .rw[if_pos rfl]
  .have:=hp.1 r h;rw[if_neg (by omega)];exact uA hp.2 r h
theorem fb{l:List (Int × Int)}{x:Int}(h:keyOf l x≠0):l≠[]:=by rintro rfl; exact h rfl
theorem vG(s:St)(c:bG):fD s c=true ↔ 0<c.key/\keyOf s.regs c.who=c.key:=by unfold fD; rw[Bool.and_eq_true,decide_eq_true_eq,decide_eq_true_eq]
structure Gi (s:St) (c:bG) (r:St) (lt:List (Int × Int)) (r0:St):Prop where
 op:c.op<=6
 one:c.op=1->keyOf s.regs c.who=c.key
 known:2<c.op->0<c.key/\keyOf s.regs c.who=c.key
 acts:bH s c=(r0,lt,0)
 res:r.regs=r0.regs/\r.typ=r0.typ/\r.holder=r0.holder/\r.stays=r0.stays/\(r.gen=r0.gen\/r.gen=r0.next.gen)
theorem AO{s:St}{c:bG}{r:St}{lt:List (Int × Int)}(h:dy s c=(r,lt,0)):∃r0,Gi s c r lt r0:=by
 unfold dy at h;by_cases h6:6<c.op
 .rw[if_pos h6]at h; cases h
 rw[if_neg h6]at h;by_cases hd:(c.op=1/\keyOf s.regs c.who≠c.key)\/(2<c.op/\fD s c=false)
 .rw[if_pos hd]at h; cases h
 rw[if_neg hd]at h
 have h1:c.op=1->keyOf s.regs c.who=c.key:=λh=>by
  by_cases e:keyOf s.regs c.who=c.key
  .exact e
  .exact absurd (.inl ⟨h,e⟩) hd
 have h2:2<c.op->0<c.key/\keyOf s.regs c.who=c.key:=λh=>by
  cases e:fD s c
  .exact absurd (.inr ⟨h,e⟩) hd
  .exact(vG s c).1 e
 by_cases hf:(bH s c).2.2≠0
 .rw[if_pos hf]at h;simp only[Prod.mk.injEq]at h;exact absurd h.2.2 hf
 rw[if_neg hf]at h
 have hf':(bH s c).2.2=0:=by omega
 refine⟨(bH s c).1,⟨by omega,h1,h2,?_,?_⟩⟩
 .split at h
  .simp only[Prod.mk.injEq]at h; rw[<-h.2.1,<-hf']
  .simp only[Prod.mk.injEq]at h; rw[<-h.2.1,<-hf']
 .split at h
  .simp only[Prod.mk.injEq]at h; rw[<-h.1]; exact⟨rfl,rfl,rfl,rfl,.inr rfl⟩
  .simp only[Prod.mk.injEq]at h; rw[<-h.1]; exact⟨rfl,rfl,rfl,rfl,.inl rfl⟩
theorem qW{s:St}(hg:0<=s.gen/\s.gen<=1000000000)(hb:∀r∈s.regs,1<=r.1/\r.1<=4/\1<=r.2/\r.2<=999)(hs:s.regs.Pairwise (λa b=>a.1<b.1)):Good s.free :=
 ⟨hg,hb,hs,λ_=>rfl,λh=>absurd rfl h,λh=>absurd h (by simp[St.free]),λh=>absurd rfl h⟩
theorem xb{s:St}(g:Good s)(h:s.typ≠0):0<s.typ/\s.typ<=8:=by have:=g.typ h; simp[aU]at this; omega
theorem uS{s:St}(g:Good s):allT s.typ=true ↔ 7<=s.typ:=by rw[jT (Ae g)]; simp
theorem Good.kpos{s:St}(g:Good s){x:Int}(h:keyOf s.regs x≠0):0<keyOf s.regs x:=by have:=lJ x s.regs (λr hr=>(g.bounds r hr).2.2.1); omega
theorem qd{s:St}(g:Good s){c:bG}(hc:jA c):Good (aR s c).1:=by
 have hb:∀r∈aZ s.regs c.who c.new,1<=r.1/\r.1<=4/\1<=r.2/\r.2<=999:=by
  intro r hr
  rcases Bc hr with⟨rfl,h⟩ | ⟨h,_⟩
  .have:=hc.who; have:=hc.new; dsimp only; omega
  .exact g.bounds r h
 have hs:=tM c.who c.new g.sorted;unfold aR;dsimp only;by_cases h1:0<c.new\/holds s c.who=false
 .rw[if_pos h1];have hk:∀x,x≠c.who->keyOf (aZ s.regs c.who c.new) x=keyOf s.regs x:=λx hx=>pe _ _ _ _ hx;refine⟨g.gen,hb,hs,g.zero,g.typ,λh7=>⟨(g.all h7).1,?_⟩,λh0 h7=>?_⟩
  .by_cases hn:0<c.new
   .exact fb (x:=c.who) (by show keyOf (aZ s.regs c.who c.new) c.who≠0; rw[i7 _ _ _ (by omega)]; omega)
   .have hh:holds s c.who=false:=h1.resolve_left hn
    have h78:s.typ=7\/s.typ=8:=by have:=g.typ (by have:7<=s.typ:=h7; omega); have h7':7<=s.typ:=h7; simp[aU]at this; omega
    have LH:¬ 0<keyOf s.regs c.who:=by simpa[holds,h78] using hh
    have NK:∀r∈s.regs,r.1≠c.who:=by rintro r hr e;have h:=fR s.regs (λr hr=>(g.bounds r hr).2.2.1) r hr;rw[e]at h;exact LH (g.kpos h)
    have e:aZ s.regs c.who c.new=s.regs:=by unfold aZ; rw[if_neg hn]; exact gI _ _ NK
    show aZ s.regs c.who c.new≠[];rw[e]; exact(g.all h7).2
  .show keyOf (aZ s.regs c.who c.new) s.holder≠0;have h0':s.typ≠0:=h0;have h7':s.typ<7:=h7;by_cases he:s.holder=c.who
   .by_cases hn:0<c.new
    .rw[he,i7 _ _ _ (by omega)]; omega
    .have hh:holds s c.who=false:=h1.resolve_left hn;have:=xb g h0'
     have h78:¬ (s.typ=7\/s.typ=8):=by omega
     simp[holds,h78,he]at hh;omega
   .rw[hk _ he]; exact g.one h0' h7'
 .rw[if_neg h1];by_cases h2:allT s.typ=true/\0<((s.withRegs (aZ s.regs c.who c.new)).withStays c.stays).regs.length
  .rw[if_pos h2];have h7:=(uS g).1 h2.1;refine⟨g.gen,hb,hs,g.zero,g.typ,λ_=>⟨(g.all h7).1,λe=>?_⟩,λ_ h=>?_⟩
   .have:=h2.2; rw[e]at this; simp at this
   .have h':s.typ<7:=h; omega
  .rw[if_neg h2]
   split<;>exact qW (s:=(s.withRegs (aZ s.regs c.who c.new)).withStays c.stays) g.gen hb hs
theorem sr{s:St}(g:Good s){c:bG}(ht:aU c.typ=true)(hk:0<c.key/\keyOf s.regs c.who=c.key):Good (bB s c).1:=by
 unfold bB
 split
 .split<;>exact g
 .have ht':c.typ=1\/c.typ=3\/5<=c.typ/\c.typ<=8:=by simpa[aU] using ht
  refine⟨g.gen,g.bounds,g.sorted,λh=>?_,λ_=>ht,λh=>⟨?_,?_⟩,λ_ h=>?_⟩
  .have h':c.typ=0:=h; omega
  .have h':7<=c.typ:=h;show(if allT c.typ=true then(0:Int) else c.who)=0;rw[if_pos (by rw[jT (.inr ht)]; simpa using h')]
  .exact fb (x:=c.who) (by show keyOf s.regs c.who≠0; omega)
  .have h':c.typ<7:=h;show keyOf s.regs (if allT c.typ=true then(0:Int) else c.who)≠0;rw[if_neg (by rw[jT (.inr ht)]; simp; omega)]; omega
theorem su{s:St}(g:Good s)(c:bG):Good (aL s c).1:=by
 unfold aL
 repeat' split
 all_goals (first|exact g | exact qW g.gen g.bounds g.sorted)
theorem jn{s:St}(g:Good s)(who key:Int):putOut s.regs (aD who key s.regs)=s.regs.filter (λr=>!io who key r):=mP g.sorted who key
theorem rY{s:St}(g:Good s){who key:Int}{x:Int × Int}(h:x∈putOut s.regs (aD who key s.regs)):x∈s.regs/\io who key x=false:=by rw[jn g]at h;have:=List.mem_filter.1 h;exact⟨this.1,by simpa using this.2⟩
theorem A7{s:St}(g:Good s)(who key:Int):keyOf (putOut s.regs (aD who key s.regs)) who=keyOf s.regs who:=by rw[jn g];exact dE _ _ _ (λr _ e=>by simp[io,e])
theorem um{s:St}(g:Good s)(who key:Int):(∀r∈putOut s.regs (aD who key s.regs),1<=r.1/\r.1<=4/\1<=r.2/\r.2<=999)/\(putOut s.regs (aD who key s.regs)).Pairwise (λa b=>a.1<b.1) :=
 ⟨λr hr=>g.bounds r (rY g hr).1,by rw[jn g]; exact g.sorted.filter _⟩
theorem oR{s:St}{c:bG}{r0:St}{lt:List (Int × Int)}(h:aI s c=(r0,lt,0)) :
  (cF s c=true/\r0=(s.withRegs (putOut s.regs (aD c.who c.new s.regs))).free.take c.typ c.who/\lt=az (aD c.who c.new s.regs) 1 ++ (if s.typ≠c.typ then az (am c.who (putOut s.regs (aD c.who c.new s.regs))) 2 else [])) \/
  (cF s c=false/\c.new≠0/\r0=s.withRegs (putOut s.regs (aD c.who c.new s.regs))/\lt=az (aD c.who c.new s.regs) 1):=by
 unfold aI at h
 split at h
 .cases h
 .rename_i h1;dsimp only at h;cases ht:cF s c
  .rw[if_pos ht]at h
   split at h
   .cases h
   .cases h; exact .inr ⟨rfl,λe=>h1 ⟨e,ht⟩,rfl,rfl⟩
  .rw[if_neg (by rw[ht]; simp)]at h;cases h; exact .inl ⟨rfl,rfl,rfl⟩
theorem sw{s:St}(g:Good s){c:bG}(ht:aU c.typ=true)(hk:0<c.key/\keyOf s.regs c.who=c.key){r0:St}{lt:List (Int × Int)}(h:aI s c=(r0,lt,0)):Good r0:=by
 obtain⟨hb,hs⟩:=um g c.who c.new;have hself:=A7 g c.who c.new
 have ht':c.typ=1\/c.typ=3\/5<=c.typ/\c.typ<=8:=by simpa[aU] using ht
 rcases oR h with⟨-,rfl,-⟩ | ⟨Lp,hn,rfl,-⟩
 .refine⟨g.gen,hb,hs,λh=>?_,λ_=>ht,λh=>⟨?_,?_⟩,λ_ h=>?_⟩
  .have h':c.typ=0:=h; omega
  .have h':7<=c.typ:=h;show(if allT c.typ=true then(0:Int) else c.who)=0;rw[if_pos (by rw[jT (.inr ht)]; simpa using h')]
  .exact fb (x:=c.who) (by show keyOf (putOut s.regs (aD c.who c.new s.regs)) c.who≠0; omega)
  .have h':c.typ<7:=h;show keyOf (putOut s.regs (aD c.who c.new s.regs)) (if allT c.typ=true then(0:Int) else c.who)≠0;rw[if_neg (by rw[jT (.inr ht)]; simp; omega)]; omega
 .refine⟨g.gen,hb,hs,g.zero,g.typ,λh=>⟨(g.all h).1,?_⟩,λh0 h7=>?_⟩
  .exact fb (x:=c.who) (by show keyOf (putOut s.regs (aD c.who c.new s.regs)) c.who≠0; omega)
  .have h0':s.typ≠0:=h0;have h7':s.typ<7:=h7;have hp:=xb g h0'
   have ha:allT s.typ=false:=by
    cases e:allT s.typ
    .rfl
    .have:=(uS g).1 e; omega
   have hkn:keyOf s.regs s.holder≠c.new:=by intro e;simp[cF,ha,hp.1,e]at Lp
   show keyOf (putOut s.regs (aD c.who c.new s.regs)) s.holder≠0;rw[jn g,dE]
   .exact g.one h0' h7'
   .intro r hr e;have:=uA g.sorted r hr;rw[e]at this
    have h2:r.2≠c.new:=by rw[<-this]; exact hkn
    simp[io,hn,h2]
theorem zi{s:St}(g:Good s){c:bG}(hc:jA c){r r0:St}{lt:List (Int × Int)}(h:Gi s c r lt r0):Good r0:=by
 have ha:=h.acts;unfold bH at ha
 split at ha
 .cases ha; exact qd g hc
 .split at ha
  .rename_i h3;simp only[Prod.mk.injEq]at ha; rw[<-ha.1];exact sr g (hc.typ (.inl h3)) (h.known (by omega))
  .split at ha
   .have e:r0=(aL s c).1:=by rw[ha]
    rw[e]; exact su g c
   .split at ha
    .cases ha
     exact⟨g.gen,λr hr=>by simp[St.withRegs]at hr,by simp[St.withRegs],λ_=>rfl,λh=>absurd rfl h,λh=>absurd h (by simp[St.withRegs,St.free]),λh=>absurd rfl h⟩
    .split at ha
     .rename_i h6;exact sw g (hc.typ (.inr (.inr h6))) (h.known (by omega)) ha
     .cases ha; exact g
theorem BQ{s r r0:St}{c:bG}{lt:List (Int × Int)}(h:Gi s c r lt r0)(g:Good r0):Good r:=by
 obtain⟨e1,e2,e3,e4,e5⟩:=h.res;refine⟨?_,by rw[e1]; exact g.bounds,by rw[e1]; exact g.sorted,by rw[e2,e3]; exact g.zero,by rw[e2]; exact g.typ,by rw[e1,e2,e3]; exact g.all,by rw[e1,e2,e3]; exact g.one⟩;have:=g.gen
 rcases e5 with e | e
 .rw[e]; exact this
 .rw[e]; unfold St.next; dsimp only; split<;>omega
theorem Cj{s:St}(g:Good s){c:bG}(hc:jA c){r:St}{lt:List (Int × Int)}(h:dy s c=(r,lt,0)):Good r/\(c.op=2\/keyOf s.regs c.who=c.key):=by
 obtain⟨r0,hr⟩:=AO h;refine⟨BQ hr (zi g hc hr),?_⟩;have:=hc.op
 rcases (by omega:c.op=1\/c.op=2\/2<c.op) with h1 | h1 | h1
 .exact .inr (hr.one h1)
 .exact .inl h1
 .exact .inr (hr.known h1).2
def vj(lt:List (Int × Int))(who:Int):Int:=lt.foldl (λt x=>if x.1=who then x.2 else t) 0
theorem told_none(who:Int):∀(l:List (Int × Int)) (t:Int),(∀x∈l,x.1≠who)->l.foldl (λt x=>if x.1=who then x.2 else t) t=t
 | [],_,_=>rfl
 | x :: l,t,h=>by rw[List.foldl_cons,if_neg (h x (by simp))];exact told_none who l t (λy hy=>h y (by simp[hy]))
theorem tz(who v:Int):∀(l:List (Int × Int)) (t:Int),l.Pairwise (λa b=>a.1≠b.1)->(who,v)∈l->l.foldl (λt x=>if x.1=who then x.2 else t) t=v
 | x :: l,t,hp,hm=>by
  rw[List.pairwise_cons]at hp;rw[List.foldl_cons]
  rcases List.mem_cons.1 hm with rfl | hm
  .rw[if_pos rfl];exact told_none who l v (λy hy e=>hp.1 y hy e.symm)
  .exact tz who v l _ hp.2 hm
theorem kj{lt:List (Int × Int)}{who v:Int}(hp:lt.Pairwise (λa b=>a.1≠b.1))(h:(who,v)∈lt):vj lt who=v:=tz who v lt 0 hp h
theorem ib{l:List Int}{v:Int}{x:Int × Int}(h:x∈az l v):x.1∈l/\x.2=v:=by unfold az at h;obtain⟨y,hy,rfl⟩:=List.mem_map.1 h;exact⟨hy,rfl⟩
theorem tA{l:List Int}{v x:Int}(h:x∈l):(x,v)∈az l v:=List.mem_map.2 ⟨x,h,rfl⟩
theorem dJ{l:List Int}(v:Int)(h:l.Pairwise (·<·)):(az l v).Pairwise (λa b=>a.1≠b.1):=by unfold az;rw[List.pairwise_map];exact h.imp (λh=>by dsimp only; omega)
theorem uG{l:List (Int × Int)}(hp:l.Pairwise (λa b=>a.1<b.1))(who key:Int):(aD who key l).Pairwise (·<·):=by unfold aD;rw[List.pairwise_map];exact hp.filter _
theorem xH{l:List (Int × Int)}{who key x:Int}(h:x∈aD who key l):∃r∈l,r.1=x/\io who key r=true:=by unfold aD at h;obtain⟨r,hr,rfl⟩:=List.mem_map.1 h;obtain⟨h1,h2⟩:=List.mem_filter.1 hr;exact⟨r,h1,rfl,h2⟩
theorem yE{l:List (Int × Int)}{who:Int}{r:Int × Int}(h:r∈l)(hw:r.1≠who):r.1∈am who l:=by unfold am without;exact List.mem_map.2 ⟨r,List.mem_filter.2 ⟨h,by simpa using hw⟩,rfl⟩
theorem pW(s:St)(c:bG):(bB s c).1.regs=s.regs:=by unfold bB; (repeat' split)<;>rfl
structure nh (s t:St) (who:Int) (lt:List (Int × Int)):Prop where
 mem:∀x∈lt,x.1≠who/\keyOf s.regs x.1≠0
 dist:lt.Pairwise (λa b=>a.1≠b.1)
 lost:∀r∈s.regs,r.1≠who->¬ 0<keyOf t.regs r.1->vj lt r.1=1\/vj lt r.1=3
theorem nh.kept{s t:St}{who:Int}{lt:List (Int × Int)}(g:Good s)(mem:∀x∈lt,x.1≠who/\keyOf s.regs x.1≠0)(dist:lt.Pairwise (λa b=>a.1≠b.1))(h:∀x,x≠who->keyOf t.regs x=keyOf s.regs x):nh s t who lt :=
 ⟨mem,dist,λr hr hw hk=>by
  exfalso;apply hk;rw[h _ hw]
  exact g.kpos (fR s.regs (λr hr=>(g.bounds r hr).2.2.1) r hr)⟩
theorem Good.key_mem{s:St}(g:Good s){r:Int × Int}(h:r∈s.regs):keyOf s.regs r.1≠0:=fR s.regs (λr hr=>(g.bounds r hr).2.2.1) r h
theorem Ey{s:St}(g:Good s){c:bG}{r:St}{lt:List (Int × Int)}(h:dy s c=(r,lt,0))(Jt:1<=c.op):nh s r c.who lt:=by
 obtain⟨r0,hr⟩:=AO h;have ha:=hr.acts;have h6:=hr.op;obtain⟨e1,e2,e3,-,-⟩:=hr.res
 have nil:∀x∈([]:List (Int × Int)),x.1≠c.who/\keyOf s.regs x.1≠0:=λx hx=>by simp at hx
 have oth:∀v,∀x∈az (am c.who s.regs) v,x.1≠c.who/\keyOf s.regs x.1≠0:=by intro v x hx;obtain⟨h1,r,hr,e⟩:=kC (ib hx).1;exact⟨h1,by rw[<-e]; exact g.key_mem hr⟩
 rcases (by omega:(c.op=1\/c.op=2)\/c.op=3\/c.op=4\/c.op=5\/c.op=6) with h1 | h1 | h1 | h1 | h1
 .unfold bH at ha;rw[if_pos h1]at ha
  have MO:(aR s c).1.regs=aZ s.regs c.who c.new:=by unfold aR; dsimp only; (repeat' split)<;>rfl
  have lB:(aR s c).2=[]\/(aR s c).2=az (am c.who (aZ s.regs c.who c.new)) 2:=by
   unfold aR; dsimp only
   repeat' split
   all_goals (first|exact .inl rfl | exact .inr rfl)
  simp only[Prod.mk.injEq,and_true]at ha;obtain⟨a1,a2⟩:=ha;rw[a1]at MO;rw[a2]at lB
  have hk:∀x,x≠c.who->keyOf r.regs x=keyOf s.regs x:=λx hx=>by rw[e1,MO]; exact pe _ _ _ _ hx
  rcases lB with rfl | rfl
  .exact nh.kept g nil List.Pairwise.nil hk
  .rw[un];exact nh.kept g (oth 2) (dJ 2 (ea g.sorted)) hk
 .unfold bH at ha;rw[if_neg (by omega),if_pos h1]at ha;simp only[Prod.mk.injEq]at ha;obtain⟨a1,rfl,a3⟩:=ha
  have:=(pW s c)
  rw[a1]at this;exact nh.kept g nil List.Pairwise.nil (λx _=>by rw[e1,this])
 .unfold bH at ha;rw[if_neg (by omega),if_neg (by omega),if_pos h1]at ha
  have MO:r0.regs=s.regs/\(lt=[]\/lt=az (am c.who s.regs) 2):=by
   unfold aL at ha
   repeat' split at ha
   all_goals (first|(cases ha; done)|(cases ha; exact⟨rfl,.inl rfl⟩)|(cases ha; exact⟨rfl,.inr rfl⟩))
  obtain⟨h2,rfl | rfl⟩:=MO
  .exact nh.kept g nil List.Pairwise.nil (λx _=>by rw[e1,h2])
  .exact nh.kept g (oth 2) (dJ 2 (ea g.sorted)) (λx _=>by rw[e1,h2])
 .unfold bH at ha;rw[if_neg (by omega),if_neg (by omega),if_neg (by omega),if_pos h1]at ha;cases ha
  exact⟨oth 3,dJ 3 (ea g.sorted),λr hr hw _=>.inr (kj (dJ 3 (ea g.sorted)) (tA (yE hr hw)))⟩
 .unfold bH at ha;rw[if_neg (by omega),if_neg (by omega),if_neg (by omega),if_neg (by omega),if_pos h1]at ha
  have hgone:∀x∈az (aD c.who c.new s.regs) 1,x.1≠c.who/\keyOf s.regs x.1≠0:=by intro x hx;obtain⟨r,hr,e,ho⟩:=xH (ib hx).1;unfold io at ho;rw[decide_eq_true_eq]at ho;exact⟨by rw[<-e]; exact ho.1,by rw[<-e]; exact g.key_mem hr⟩
  have hoth:∀x∈az (am c.who (putOut s.regs (aD c.who c.new s.regs))) 2,x.1≠c.who/\keyOf s.regs x.1≠0:=by intro x hx;obtain⟨h1,r,hr,e⟩:=kC (ib hx).1;exact⟨h1,by rw[<-e]; exact g.key_mem (rY g hr).1⟩
  have hgs:=uG g.sorted c.who c.new
  have hcross:∀x∈az (aD c.who c.new s.regs) 1,∀y∈az (am c.who (putOut s.regs (aD c.who c.new s.regs))) 2,x.1≠y.1:=by intro x hx y hy exy;obtain⟨r,hr,e,ho⟩:=xH (ib hx).1;obtain⟨_,q,hq,e'⟩:=kC (ib hy).1;obtain⟨hq1,hq2⟩:=rY g hq;have:=ko g.sorted hr hq1 (by rw[e,e']; exact exy);rw[this,hq2]at ho;cases ho
  have hregs:r0.regs=putOut s.regs (aD c.who c.new s.regs)/\(lt=az (aD c.who c.new s.regs) 1\/lt=az (aD c.who c.new s.regs) 1 ++ az (am c.who (putOut s.regs (aD c.who c.new s.regs))) 2):=by
   rcases oR ha with⟨-,rfl,rfl⟩ | ⟨-,-,rfl,rfl⟩
   .refine⟨rfl,?_⟩
    split
    .exact .inr rfl
    .exact .inl (List.append_nil _)
   .exact⟨rfl,.inl rfl⟩
  obtain⟨MO,lB⟩:=hregs
  have hlost:∀x∈s.regs,x.1≠c.who->¬ 0<keyOf r.regs x.1->(x.1,1)∈az (aD c.who c.new s.regs) 1:=by
   intro x hx hw hk;refine tA ?_;cases ho:io c.who c.new x
   .exfalso;apply hk;rw[e1,MO,jn g,dE]
    .exact g.kpos (g.key_mem hx)
    .intro y hy e;rw[ko g.sorted hy hx e,ho]; rfl
   .unfold aD;exact List.mem_map.2 ⟨x,List.mem_filter.2 ⟨hx,ho⟩,rfl⟩
  rcases lB with rfl | rfl
  .exact⟨hgone,dJ 1 hgs,λx hx hw hk=>.inl (kj (dJ 1 hgs) (hlost x hx hw hk))⟩
  .have hd:(az (aD c.who c.new s.regs) 1 ++ az (am c.who (putOut s.regs (aD c.who c.new s.regs))) 2).Pairwise (λa b=>a.1≠b.1) :=
    List.pairwise_append.2 ⟨dJ 1 hgs,dJ 2 (ea (um g c.who c.new).2),hcross⟩
   refine⟨λx hx=>?_,hd,λx hx hw hk=>.inl (kj hd (List.mem_append_left _ (hlost x hx hw hk)))⟩
   rcases List.mem_append.1 hx with h | h
   .exact hgone x h
   .exact hoth x h
end
section
open Go.RowKit Go.Sort
theorem eW{b:Bool}{x m r:Int}(h:stage b x m r=0):0<=x/\x<=m/\(b=false->x=0)/\r=0:=by
 unfold stage at h
 split at h
 .cases h
 .rename_i h1
  split at h
  .cases h
  .refine⟨by omega,by omega,λe=>?_,h⟩;by_cases hx:x=0
   .exact hx
   .exact absurd ⟨e,hx⟩ h1
theorem FU{c:bG}(h:aB c=0):jA c:=by
 unfold aB at h
 split at h
 .cases h
 .rename_i h1
  split at h
  .cases h
  .rename_i h2;obtain⟨k1,k2,-,h⟩:=eW h;obtain⟨n1,n2,-,h⟩:=eW h;obtain⟨a1,a2,-,h⟩:=eW h;unfold Gk at h
   split at h
   .cases h
   .rename_i h3;refine⟨by omega,by omega,⟨k1,k2⟩,⟨n1,n2⟩,λho=>?_⟩;cases hm:aU c.typ
    .exact absurd (by simp[fz,ho,hm]) h3
    .rfl
end
section
open Go.RowKit
structure TI (n:Nat) (S:aw->Prop) (B:Int) (t:Tg):Prop where
 kd:KD n t.k.d t.k.num t.k.ep t.k.s
 fuse:t.k.d.fuse=-1
 kb:t.k.num<=B
 eb:t.k.ep<=B
 qi:QI t.g t.k.ep
 box:t.b.ok
 n0:0<=t.num/\t.num<=B
 t0:0<=t.tag/\t.tag<=B
 fl:t.fly.length<=40
 msg:∀m∈t.fly,0<=m.tt/\m.tt<3/\0<=m.at'/\m.at'<8/\m.c.e<=t.k.ep/\1<=m.tag/\m.tag<=t.tag/\S m.c
 wl:t.wait.length<=6
 wt:∀w∈t.wait,1<=w.tag/\w.tag<=t.tag/\w.hv.length<=1
 ws:t.wait.Pairwise (λa b=>a.tag<b.tag)
 dn:∀x∈t.done,1<=x/\x<=t.tag
 fa:Fa S
 al:cJ S t.g
 sb:∀x,S x->x.e<t.k.ep\/(x.e=t.k.ep/\x.n<=t.num)
section
variable {n:Nat} {S:aw->Prop} {B:Int} {t:Tg}
theorem TI.e1(h:TI n S B t):1<=t.k.ep/\t.k.ep<=1000000:=⟨h.kd.place.k.e0,h.kd.place.k.e1⟩
theorem TI.good(h:TI n S B t):Good t.k.s:=h.kd.place.k.g
theorem QI.ready(h:QI t.g t.k.ep):t.ready=t:=by unfold Tg.ready; rw[h.fence]
theorem QI.isReady(h:QI t.g t.k.ep):t.isReady=decide (2<=(t.g.mem t.k.ep).length):=by unfold Tg.isReady; rw[h.fence]
theorem TI.ready(h:TI n S B t):t.ready=t:=h.qi.ready
theorem TI.isReady(h:TI n S B t):t.isReady=decide (2<=(t.g.mem t.k.ep).length):=h.qi.isReady
theorem TI.mono(h:TI n S B t){C:Int}(hB:B<=C):TI n S C t :=
 ⟨h.kd,h.fuse,by have:=h.kb; omega,by have:=h.eb; omega,h.qi,h.box,by have:=h.n0; omega,by have:=h.t0; omega,h.fl,h.msg,h.wl,h.wt,h.ws,h.dn,h.fa,h.al,h.sb⟩
theorem mq{k:Kp}(hk:KD n k.d k.num k.ep k.s)(hf:k.d.fuse=-1)(hn:k.num<1000000000000000){ep:Int}{s:St}(he:1<=ep/\ep<=1000000)(hs:Good s) : (k.keep n ep s).2=0/\(k.keep n ep s).1.num=k.num+1/\(k.keep n ep s).1.ep=ep/\(k.keep n ep s).1.s=s/\KD n (k.keep n ep s).1.d (k.num+1) ep s/\(k.keep n ep s).1.d.fuse=-1:=by
 have hz:ar s=0:=(fq s).2 hs;obtain⟨l1,l2⟩:=yV (n:=n) hf hk.up (iy (k.num+1)) (kA (k.num+1) ep s) (kB (k.num+1) ep s);obtain⟨-,l3,-⟩:=xy hk hn he hs;unfold Kp.keep;rw[if_neg (by omega),if_neg (by omega)];unfold Kp.lay;dsimp only;rw[if_pos l1];exact⟨rfl,rfl,rfl,rfl,l3 l1,l2⟩
theorem qJ(hkd:KD n t.k.d t.k.num t.k.ep t.k.s)(hfu:t.k.d.fuse=-1)(hqi:QI t.g t.k.ep)(hnum:t.k.num+2<1000000000000000){s:St}(hs:Good s) : (2<=(t.g.mem t.k.ep).length->t.k.ep≠1000000->(t.next n s).2=0/\∃d,(t.next n s).1={ t with k:=⟨d,t.k.num+2,t.k.ep+1,s⟩,g:=t.g.fence (t.k.ep+1),num:=0,wait:=[] }/\KD n d (t.k.num+2) (t.k.ep+1) s/\d.fuse=-1) /\ (¬ 2<=(t.g.mem t.k.ep).length->t.next n s=(t,7))/\(2<=(t.g.mem t.k.ep).length->t.k.ep=1000000->t.next n s=(t,6)):=by
 refine⟨λhm he=>?_,λhm=>?_,λhm he=>?_⟩
 .have h1:1<=t.k.ep/\t.k.ep<=1000000:=⟨hkd.place.k.e0,hkd.place.k.e1⟩
  obtain⟨k1,k2,k3,k4,k5,k6⟩:=mq hkd hfu (by omega) (ep:=t.k.ep+1) (s:=t.k.s) (by omega) hkd.place.k.g;obtain⟨q1,q2,-⟩:=kP hqi hm;obtain⟨kk,J7⟩:=Nn ((t.k.keep n (t.k.ep+1) t.k.s).1);rw[<-J7]at k2 k3 k4 k5 k6;obtain⟨m1,m2,m3,m4,m5,m6⟩:=mq (k:=kk) (by rw[k2,k3,k4]; exact k5) k6 (by rw[k2]; omega) (ep:=t.k.ep+1) (s:=s) (by omega) hs;unfold Tg.next;rw[hqi.isReady,if_neg (by simp[hm]),if_neg he,hqi.ready];unfold Tg.keep;dsimp only;rw[if_neg (by simp[k1]),<-J7]
  have e2:({ t with k:=kk }:Tg).fresh.isReady=true:=by unfold Tg.isReady Tg.fresh;dsimp only;rw[k3,q2];exact decide_eq_true hm
  rw[if_neg (by rw[e2]; simp)];unfold Tg.ready Tg.fresh;dsimp only;rw[k3];refine⟨m1,(kk.keep n (t.k.ep+1) s).1.d,?_,?_,m6⟩
  .congr 1;cases hq:(kk.keep n (t.k.ep+1) s).1
   rw[hq]at m2 m3 m4;dsimp only at m2 m3 m4⊢;rw[m2,m3,m4,k2];congr 1;omega
  .have:=m5;rw[k2]at this;rw[show t.k.num+2=t.k.num+1+1 by omega];exact this
 .unfold Tg.next;rw[hqi.isReady,if_pos (by simp; omega),hqi.ready]
 .unfold Tg.next;rw[hqi.isReady,if_neg (by simp[hm]),if_pos he,hqi.ready]
theorem fW(h:TI n S B t)(hB:B+2<1000000000000000){s:St}(hs:Good s) : (2<=(t.g.mem t.k.ep).length->t.k.ep≠1000000->(t.next n s).2=0/\∃d,(t.next n s).1={ t with k:=⟨d,t.k.num+2,t.k.ep+1,s⟩,g:=t.g.fence (t.k.ep+1),num:=0,wait:=[] }/\KD n d (t.k.num+2) (t.k.ep+1) s/\d.fuse=-1) /\ (¬ 2<=(t.g.mem t.k.ep).length->t.next n s=(t,7))/\(2<=(t.g.mem t.k.ep).length->t.k.ep=1000000->t.next n s=(t,6)) :=
 qJ h.kd h.fuse h.qi (by have:=h.kb; omega) hs
theorem TI.nexted(h:TI n S B t){d:Dk}{s:St}{b:Bl}(hm:2<=(t.g.mem t.k.ep).length)(hd:KD n d (t.k.num+2) (t.k.ep+1) s)(hf:d.fuse=-1)(hb:b.ok) : TI n S (B+2) { t with k:=⟨d,t.k.num+2,t.k.ep+1,s⟩,g:=t.g.fence (t.k.ep+1),num:=0,wait:=[],b:=b }:=by
 have Ly:=h.kb;have J9:=h.eb;have hn0:=h.n0;have LX:=h.t0;refine⟨hd,hf,by show t.k.num+2<=_; omega,by show t.k.ep+1<=_; omega,(kP h.qi hm).1,hb,⟨by show(0:Int)<=0; omega,by show(0:Int)<=_; omega⟩,⟨LX.1,by show t.tag<=_; omega⟩,h.fl,λm hm=>?_,by simp,(λw hw=>by cases hw),List.Pairwise.nil,h.dn,h.fa,h.al.fence h.fa.z _,λx hx=>?_⟩
 .obtain⟨a,b,c,d,e,f,g,i⟩:=h.msg m hm;exact⟨a,b,c,d,by show m.c.e<=t.k.ep+1; omega,f,g,i⟩
 .left
  show x.e<t.k.ep+1
  rcases h.sb x hx with hx | hx<;>omega
theorem TI.kept(h:TI n S B t)(hB:B+2<1000000000000000){s:St}(hs:Good s):(t.keep n t.k.ep s).2=0/\∃d,(t.keep n t.k.ep s).1={ t with k:=⟨d,t.k.num+1,t.k.ep,s⟩ }/\KD n d (t.k.num+1) t.k.ep s/\d.fuse=-1:=by
 have Ly:=h.kb;obtain⟨k1,k2,k3,k4,k5,k6⟩:=mq h.kd h.fuse (by omega) (ep:=t.k.ep) (s:=s) h.e1 hs;unfold Tg.keep;dsimp only;refine⟨k1,_,?_,k5,k6⟩;congr 1;cases hq:(t.k.keep n t.k.ep s).1
 rw[hq]at k2 k3 k4;dsimp only at k2 k3 k4⊢;rw[k2,k3,k4]
theorem TI.setK(h:TI n S B t){d:Dk}{s:St}{b:Bl}(hd:KD n d (t.k.num+1) t.k.ep s)(hf:d.fuse=-1)(hb:b.ok):TI n S (B+2) { t with k:=⟨d,t.k.num+1,t.k.ep,s⟩,b:=b }:=by have Ly:=h.kb;have J9:=h.eb;have hn0:=h.n0;have LX:=h.t0;exact⟨hd,hf,by show t.k.num+1<=_; omega,by show t.k.ep<=_; omega,h.qi,hb,⟨hn0.1,by show t.num<=_; omega⟩,⟨LX.1,by show t.tag<=_; omega⟩,h.fl,h.msg,h.wl,h.wt,h.ws,h.dn,h.fa,h.al,h.sb⟩
theorem Bl.ok.set{b:Bl}(h:b.ok)(k:Int){l:List Int}(hl:l.length<=5)(hn:∀x∈l,1<=x/\x<=4):(b.set k l).ok:=by
 have key:∀j,(b.set k l).get j=l\/(b.set k l).get j=b.get j:=by
  intro j;unfold Bl.set Bl.get
  repeat' split
  all_goals first | exact .inl rfl | exact .inr rfl
 constructor
 .intro j; rcases key j with e | e<;>rw[e]
  .exact hl
  .exact h.len j
 .intro j x hx
  rcases key j with e | e<;>rw[e]at hx
  .exact hn x hx
  .exact h.num j x hx
theorem Da{l:List Int}{x y:Int}(h:y∈ia l x):y∈l\/y=x:=by
 unfold ia at h
 split at h
 .exact .inl h
 .have:=List.mem_of_mem_drop h;simpa using this
theorem Bl.ok.add{b:Bl}(h:b.ok){x:Int × Int}(hx:1<=x.2/\x.2<=4):(b.add x).ok :=
 h.set _ (Db _ _ (h.len _)) (λy hy=>by
  rcases Da hy with e | e
  .exact h.num _ y e
  .omega)
theorem Bl.ok.adds:∀ {l:List (Int × Int)} {b:Bl},b.ok->(∀x∈l,1<=x.2/\x.2<=4)->(b.adds l).ok
 | [],_,h,_=>h
 | x :: l,b,h,hl=>Bl.ok.adds (b:=b.add x) (h.add (hl x (by simp))) (λy hy=>hl y (by simp[hy]))
theorem Bl.pow_ok:Bl.pow.ok:=by
 have key:∀j,Bl.pow.get j=[4]:=by
  intro j;unfold Bl.get Bl.pow
  repeat' split
  all_goals rfl
 exact⟨λj=>by rw[key]; decide,λj x hx=>by rw[key]at hx; simp at hx; omega⟩
theorem Bl.zero_ok:Bl.zero.ok:=by
 have key:∀j,Bl.zero.get j=[]:=by
  intro j;unfold Bl.get Bl.zero
  repeat' split
  all_goals rfl
 exact⟨λj=>by rw[key]; decide,λj x hx=>by rw[key]at hx; cases hx⟩
theorem AM(s:St)(c:bG):∀x∈(dy s c).2.1,1<=x.2/\x.2<=3:=by
 have w:∀ {l:List Int} {k:Int},1<=k/\k<=3->∀x∈az l k,1<=x.2/\x.2<=3:=λhk x hx=>by unfold az at hx;obtain⟨y,-,rfl⟩:=List.mem_map.1 hx;exact hk
 have nil:∀x∈([]:List (Int × Int)),1<=x.2/\x.2<=3:=λx hx=>by cases hx
 have app:∀ {l m:List (Int × Int)},(∀x∈l,1<=x.2/\x.2<=3)->(∀x∈m,1<=x.2/\x.2<=3)->∀x∈l ++ m,1<=x.2/\x.2<=3:=λh g x hx=>by
  rcases List.mem_append.1 hx with e | e
  .exact h x e
  .exact g x e
 have reg:∀x∈(aR s c).2,1<=x.2/\x.2<=3:=by
  unfold aR;dsimp only
  repeat' split
  all_goals first | exact nil | exact w (k:=2) (by omega)
 have rel:∀x∈(aL s c).2.1,1<=x.2/\x.2<=3:=by
  unfold aL
  repeat' split
  all_goals first | exact nil | exact w (k:=2) (by omega)
 have pre:∀x∈(aI s c).2.1,1<=x.2/\x.2<=3:=by
  unfold aI;dsimp only
  repeat' split
  all_goals first | exact nil | exact w (k:=1) (by omega) | exact app (w (k:=1) (by omega)) (w (k:=2) (by omega)) | exact app (w (k:=1) (by omega)) nil
 have acts:∀x∈(bH s c).2.1,1<=x.2/\x.2<=3:=by
  unfold bH
  repeat' split
  all_goals first | exact nil | exact reg | exact rel | exact pre | exact w (k:=3) (by omega)
 unfold dy
 repeat' split
 all_goals first | exact nil | exact acts
end
section
variable {n:Nat} {S:aw->Prop} {B:Int} {t:Tg}
inductive fh (n:Nat) (t:Tg) (c:bG):Tg->Int->Prop where
 | bad {f:Int} (hf:f≠0) (h:(dy t.k.s c).2.2=f):fh n t c t f
 | less (d:Dk) (l:cG ce t.k.s (dy t.k.s c).1=true) (h0:(dy t.k.s c).2.2=0) (hm:2<=(t.g.mem t.k.ep).length) (hd:KD n d (t.k.num+2) (t.k.ep+1) (dy t.k.s c).1) (hf:d.fuse=-1) :
   fh n t c { t with k:=⟨d,t.k.num+2,t.k.ep+1,(dy t.k.s c).1⟩,g:=t.g.fence (t.k.ep+1),num:=0,wait:=[],b:=t.b.adds (dy t.k.s c).2.1 } 0
 | busy (f:Int) (hf:f=7\/f=6) (hb:f=7->¬ 2<=(t.g.mem t.k.ep).length) (h6:f=6->t.k.ep=1000000) (l:cG ce t.k.s (dy t.k.s c).1=true):fh n t c t f
 | more (d:Dk) (l:cG ce t.k.s (dy t.k.s c).1=false) (h0:(dy t.k.s c).2.2=0) (hd:KD n d (t.k.num+1) t.k.ep (dy t.k.s c).1) (hf:d.fuse=-1) :
   fh n t c { t with k:=⟨d,t.k.num+1,t.k.ep,(dy t.k.s c).1⟩,b:=t.b.adds (dy t.k.s c).2.1 } 0
theorem lx{s:St}(g:Good s){c:bG}(hc:jA c)(h:(dy s c).2.2=0):Good (dy s c).1:=by refine(Cj g hc (r:=(dy s c).1) (lt:=(dy s c).2.1) ?_).1;rw[<-h]
theorem oY(h:TI n S B t)(hB:B+2<1000000000000000){c:bG}(hc:jA c):fh n t c (t.order n c).1 (t.order n c).2:=by
 unfold Tg.order;by_cases h0:(dy t.k.s c).2.2=0
 .rw[if_neg (by simp[h0])];have hg:=lx h.good hc h0;dsimp only;by_cases hl:cG ce t.k.s (dy t.k.s c).1=true
  .rw[if_pos hl];obtain⟨n1,n2,n3⟩:=fW h hB hg;by_cases hm:2<=(t.g.mem t.k.ep).length
   .by_cases he:t.k.ep=1000000
    .rw[n3 hm he];exact .busy 6 (.inr rfl) (λe=>by cases e) (λ_=>he) hl
    .obtain⟨e1,d,e2,e3,e4⟩:=n1 hm he;rw[if_neg (by simp[e1]),e2];exact .less d hl h0 hm e3 e4
   .rw[n2 hm];exact .busy 7 (.inl rfl) (λ_=>hm) (λe=>by cases e) hl
  .rw[if_neg hl];obtain⟨e1,d,e2,e3,e4⟩:=h.kept hB hg;rw[if_neg (by simp[e1]),e2];exact .more d (by simpa using hl) h0 e3 e4
 .rw[if_pos h0];exact .bad h0 rfl
theorem fh.ti(h:TI n S B t){c:bG}{t':Tg}{f:Int}(o:fh n t c t' f):TI n S (B+2) t':=by
 have hb:∀x∈(dy t.k.s c).2.1,1<=x.2/\x.2<=4:=λx hx=>by have:=AM t.k.s c x hx; omega
 cases o with
 | bad=>exact h.mono (by omega)
 | less d l h0 hm hd hf=>exact h.nexted hm hd hf (h.box.adds hb)
 | busy=>exact h.mono (by omega)
 | more d l h0 hd hf=>exact h.setK hd hf (h.box.adds hb)
theorem TI.setG(h:TI n S B t){g:Gp}(hg:QI g t.k.ep)(ha:cJ S g):TI n S B { t with g:=g } :=
 ⟨h.kd,h.fuse,h.kb,h.eb,hg,h.box,h.n0,h.t0,h.fl,h.msg,h.wl,h.wt,h.ws,h.dn,h.fa,ha,h.sb⟩
theorem TI.setB(h:TI n S B t){b:Bl}(hb:b.ok):TI n S B { t with b:=b } :=
 ⟨h.kd,h.fuse,h.kb,h.eb,h.qi,hb,h.n0,h.t0,h.fl,h.msg,h.wl,h.wt,h.ws,h.dn,h.fa,h.al,h.sb⟩
theorem TI.setFly(h:TI n S B t){l:List Ms}(hl:l.length<=40)(hm:∀m∈l,m∈t.fly):TI n S B { t with fly:=l } :=
 ⟨h.kd,h.fuse,h.kb,h.eb,h.qi,h.box,h.n0,h.t0,hl,λm hx=>h.msg m (hm m hx),h.wl,h.wt,h.ws,h.dn,h.fa,h.al,h.sb⟩
theorem eV(h:TI n S B t)(k:Nat) : (¬ 2<=(t.g.mem t.k.ep).length->t.read k=(t,⟨#[]⟩,7)) /\ (2<=(t.g.mem t.k.ep).length->t.read k=({ t with g:=t.g.read t.k.ep k },(bK k (t.g.frm t.k.ep)).d,0)):=by
 refine⟨λhm=>?_,λhm=>?_⟩
 .unfold Tg.read;rw[h.isReady,if_pos (by simp; omega),h.ready]
 .unfold Tg.read;rw[h.isReady,if_neg (by simp[hm]),h.ready,show t.g.readC t.k.ep k=bK k (t.g.frm t.k.ep) from if_pos hm]
theorem TI.read(h:TI n S B t)(k:Nat):TI n S B (t.read k).1:=by
 by_cases hm:2<=(t.g.mem t.k.ep).length
 .rw[(eV h k).2 hm];exact h.setG (h.qi.read k) (h.al.read h.fa.z _ _)
 .rw[(eV h k).1 hm];exact h
theorem TI.write(h:TI n S B t){c:bG}(ha:0<=c.at'/\c.at'<8):∃S',(∀x,S x->S' x)/\TI n S' (B+1) (t.write c).1/\(t.write c).1.k=t.k/\(t.write c).1.g=t.g/\(t.write c).1.b=t.b:=by
 unfold Tg.write
 split
 .exact⟨S,λ_ hx=>hx,h.mono (by omega),rfl,rfl,rfl⟩
 .rename_i hc;have hn0:=h.n0;have LX:=h.t0;have Ly:=h.kb;have J9:=h.eb;have JW:=h.wl
  obtain⟨x,hx⟩:∃x:aw,x=⟨t.k.ep,t.num+1,c.data⟩:=⟨_,rfl⟩
  have he:=h.e1
  have hnew:¬ S x:=λhS=>by rcases h.sb x hS with e | e<;>subst hx<;>dsimp only at e<;>omega
  refine⟨λy=>S y\/y=x,λ_ hy=>.inl hy,⟨h.kd,h.fuse,by show t.k.num<=_; omega,by show t.k.ep<=_; omega,h.qi,h.box,?_,?_,?_,?_,?_,?_,?_,?_,?_,?_,?_⟩,rfl,rfl,rfl⟩
  .show 0<=t.num+1/\t.num+1<=_; omega
  .show 0<=t.tag+1/\t.tag+1<=_; omega
  .simp only[List.length_append,List.length_cons,List.length_nil]; omega
  .intro m hm
   rcases List.mem_append.1 hm with e | e
   .obtain⟨a1,a2,a3,a4,a5,a6,a7,a8⟩:=h.msg m e;exact⟨a1,a2,a3,a4,a5,a6,by show m.tag<=t.tag+1; omega,.inl a8⟩
   .simp only[List.mem_cons,List.mem_nil_iff,or_false]at e
    have key:∀i:Int,0<=i/\i<3->m=t.msg c i->0<=m.tt/\m.tt<3/\0<=m.at'/\m.at'<8/\m.c.e<=t.k.ep/\1<=m.tag/\m.tag<=t.tag+1/\(S m.c\/m.c=x):=by rintro i hi rfl;exact⟨hi.1,hi.2,ha.1,ha.2,by show t.k.ep<=t.k.ep; omega,by show 1<=t.tag+1; omega,by show t.tag+1<=t.tag+1; omega,.inr hx.symm⟩
    rcases e with e | e | e
    .exact key 0 (by omega) e
    .exact key 1 (by omega) e
    .exact key 2 (by omega) e
  .simp only[List.length_append,List.length_cons,List.length_nil]; omega
  .intro w hw
   rcases List.mem_append.1 hw with e | e
   .have:=h.wt w e; exact⟨this.1,by show w.tag<=t.tag+1; omega,this.2.2⟩
   .simp only[List.mem_singleton]at e;subst e;exact⟨by show 1<=t.tag+1; omega,by show t.tag+1<=t.tag+1; omega,by simp⟩
  .rw[List.pairwise_append];refine⟨h.ws,by simp,λa hA b hb=>?_⟩;simp only[List.mem_singleton]at hb;subst hb;have:=h.wt a hA;show a.tag<t.tag+1;omega
  .intro y hy;have:=h.dn y hy;show 1<=y/\y<=t.tag+1;omega
  .refine⟨.inl h.fa.z,?_⟩;rintro a b (hA | rfl) (hb | rfl) e1 e2
   .exact h.fa.uni a b hA hb e1 e2
   .subst hx; rcases h.sb a hA with e | e<;>dsimp only at e1 e2<;>omega
   .subst hx; rcases h.sb b hb with e | e<;>dsimp only at e1 e2<;>omega
   .rfl
  .exact h.al.mono λy hy=>.inl hy
  .rintro y (hy | rfl)
   .rcases h.sb y hy with e | e
    .exact .inl e
    .right; show y.e=t.k.ep/\y.n<=t.num+1; omega
   .right; subst hx; show t.k.ep=t.k.ep/\t.num+1<=t.num+1; omega
theorem dR{c:bG}(h:aB c=0):jA c/\(7<=c.op->0<=c.at'/\c.at'<8)/\c.data.size<=8/\c.want.size<=8:=by
 refine⟨FU h,?_⟩;unfold aB at h
 split at h
 .cases h
 .split at h
  .cases h
  .obtain⟨k1,k2,-,h⟩:=eW h;obtain⟨n1,n2,-,h⟩:=eW h;obtain⟨a1,a2,-,h⟩:=eW h;unfold Gk at h
   split at h
   .cases h
   .unfold GM at h
    split at h
    .cases h
    .exact⟨λ_=>⟨a1,by omega⟩,by omega,by omega⟩
theorem TI.ask(h:TI n S B t)(hB:B+2<1000000000000000)(c:bG):∃S',(∀x,S x->S' x)/\TI n S' (B+2) (t.ask n c).1:=by
 have id:∃S',(∀x,S x->S' x)/\TI n S' (B+2) t:=⟨S,λ_ hx=>hx,h.mono (by omega)⟩
 unfold Tg.ask
 split
 .exact id
 rename_i hf
 have hf0:aB c=0:=by simpa using hf
 obtain⟨hc,Iw,-,-⟩:=dR hf0
 split
 .rename_i ht;refine⟨S,λ_ hx=>hx,TI.mono (B:=B) ?_ (by omega)⟩;refine h.setB (h.box.set _ ?_ ?_)
  .have:=h.box.len c.who; simp; omega
  .exact λx hx=>h.box.num _ x (List.mem_of_mem_tail hx)
 split
 .exact⟨S,λ_ hx=>hx,(oY h hB hc).ti h⟩
 rename_i h6
 split
 .exact id
 split
 .exact⟨S,λ_ hx=>hx,(h.read _).mono (by omega)⟩
 split
 .rw[h.ready]; exact id
 have wr:∀ {u:Tg},TI n S B u->∃S',(∀x,S x->S' x)/\TI n S' (B+2) (u.doWrite c).1:=λhu=>by obtain⟨S',h1,h2,-⟩:=hu.write (c:=c) (Iw (by omega));exact⟨S',h1,h2.mono (by omega)⟩
 split
 .rw[h.ready];unfold Tg.doComp;dsimp only
  split
  .exact⟨S,λ_ hx=>hx,(h.read _).mono (by omega)⟩
  .exact wr (h.read _)
 .rw[h.ready]; exact wr h
theorem rl(t:Tg)(m:Ms):(t.came m).k=t.k/\(t.came m).g=t.g/\(t.came m).b=t.b/\(t.came m).num=t.num/\(t.came m).tag=t.tag/\(t.came m).fly=t.fly:=by
 unfold Tg.came
 split
 .exact⟨rfl,rfl,rfl,rfl,rfl,rfl⟩
 .split
  .exact⟨rfl,rfl,rfl,rfl,rfl,rfl⟩
  .exact⟨rfl,rfl,rfl,rfl,rfl,rfl⟩
theorem TI.came(h:TI n S B t){m:Ms}(hm:1<=m.tag/\m.tag<=t.tag):TI n S B (t.came m):=by
 unfold Tg.came
 split
 .exact h
 rename_i w hw;have hwm:=List.mem_of_find?_eq_some hw
 have hwt:w.tag=m.tag:=by simpa using List.find?_some hw
 split
 .refine⟨h.kd,h.fuse,h.kb,h.eb,h.qi,h.box,h.n0,h.t0,h.fl,h.msg,?_,λx hx=>h.wt x (List.mem_filter.1 hx).1,h.ws.filter _,?_,h.fa,h.al,h.sb⟩
  .have:=List.length_filter_le (λw=>decide (w.tag≠m.tag)) t.wait;have:=h.wl;dsimp only;omega
  .intro x hx;dsimp only at hx
   split at hx
   .exact h.dn x hx
   .rcases List.mem_append.1 hx with e | e
    .exact h.dn x e
    .simp only[List.mem_singleton]at e; subst e; exact hm
 .rename_i hlen;refine⟨h.kd,h.fuse,h.kb,h.eb,h.qi,h.box,h.n0,h.t0,h.fl,h.msg,by simpa using h.wl,λx hx=>?_,?_,h.dn,h.fa,h.al,h.sb⟩
  .dsimp only at hx;obtain⟨y,hy,rfl⟩:=List.mem_map.1 hx;have hyw:=h.wt y hy
   split
   .rename_i e
    have hyy:y=w:=by
     have hp:=h.ws;by_cases Ik:y=w
     .exact Ik
     .rcases List.getElem_of_mem hy with⟨i,hi,rfl⟩
      rcases List.getElem_of_mem hwm with⟨j,hj,rfl⟩
      rw[List.pairwise_iff_getElem]at hp
      rcases Nat.lt_trichotomy i j with q | q | q
      .have:=hp i j hi hj q; omega
      .subst q; exact absurd rfl Ik
      .have:=hp j i hj hi q; omega
    subst hyy;exact⟨hyw.1,hyw.2.1,by omega⟩
   .exact hyw
  .dsimp only;rw[List.pairwise_map];refine h.ws.imp fun {a b} hab=>?_
   have e:∀a:Wt,(if a.tag=m.tag then a.put m.tt else a).tag=a.tag:=λa=>by split<;>rfl
   rw[e,e]; exact hab
theorem xJ{l:List Ms}{i:Int}(h:¬ (i<0\/(l.length:Int)<=i)):l.getD i.toNat ⟨0,0,aw.zero,0⟩∈l:=by
 have hi:i.toNat<l.length:=by omega
 rw[List.getD_eq_getElem?_getD,List.getElem?_eq_getElem hi];exact List.getElem_mem hi
theorem TI.gone(h:TI n S B t)(i:Nat):TI n S B { t with fly:=t.fly.eraseIdx i } :=
 h.setFly (by have:=h.fl; have:=List.length_eraseIdx_le t.fly i; omega) (λm hm=>List.mem_of_mem_eraseIdx hm)
theorem TI.deliver(h:TI n S B t)(i:Int)(stays:Bool):TI n S B (t.deliver i stays).1:=by
 unfold Tg.deliver
 split
 .exact h
 rename_i hi;have hm:=h.msg _ (xJ hi);obtain⟨m,hme⟩:=Nn (t.fly.getD i.toNat ⟨0,0,aw.zero,0⟩);rw[<-hme]at hm ⊢;dsimp only
 have h1:TI n S B { t with fly:=if stays then t.fly else t.fly.eraseIdx i.toNat,g:=t.g.deliver m.tt.toNat m.at'.toNat m.c }:=by
  have h0:TI n S B { t with fly:=if stays then t.fly else t.fly.eraseIdx i.toNat }:=by
   cases stays
   .exact h.gone _
   .exact h
  exact h0.setG (h.qi.deliver (by omega) _) (h.al.deliver h.fa.z _ _ hm.2.2.2.2.2.2.2)
 split
 .exact h1.came ⟨hm.2.2.2.2.2.1,hm.2.2.2.2.2.2.1⟩
 .exact h1
theorem TI.lose(h:TI n S B t)(i:Int):TI n S B (t.lose i).1:=by
 unfold Tg.lose
 split
 .exact h
 .exact h.gone _
theorem TI.up(h:TI n S B t)(i:Int)(b:Bool):TI n S B (t.up i b).1:=by
 unfold Tg.up
 split
 .exact h
 .exact h.setG (h.qi.setU _ _) (h.al.setU _ _)
theorem TI.sync(h:TI n S B t)(i:Int):TI n S B (t.sync i).1:=by
 unfold Tg.sync
 split
 .exact h
 split
 .exact h.setG (h.qi.sync (by omega)) (h.al.sync h.fa.z _ _)
 .exact h
theorem Good.lost{s:St}(h:Good s):Good s.lost:=by
 unfold St.lost
 split
 .exact⟨by dsimp only; omega,h.bounds,h.sorted,h.zero,h.typ,h.all,h.one⟩
 .exact(fq _).1 rfl
theorem TI.power(h:TI n S B t)(hB:B+2<1000000000000000):TI n S (B+2) (t.power n).1:=by
 obtain⟨n1,n2,n3⟩:=fW h hB h.good.lost;unfold Tg.power;dsimp only;by_cases hm:2<=(t.g.mem t.k.ep).length
 .by_cases he:t.k.ep=1000000
  .rw[n3 hm he]; exact h.mono (by omega)
  .obtain⟨e1,d,e2,e3,e4⟩:=n1 hm he;rw[if_neg (by simp[e1]),e2];exact h.nexted hm e3 e4 Bl.pow_ok
 .rw[n2 hm]; exact h.mono (by omega)
theorem fk(h:TI n S B t)(hB:B+2<1000000000000000) : (2<=(t.g.mem t.k.ep).length->t.k.ep≠1000000->(Tg.new n t.k t.g).2=0/\∃d,(Tg.new n t.k t.g).1=Tg.start ⟨d,t.k.num+2,t.k.ep+1,t.k.s⟩ (t.g.fence (t.k.ep+1))/\KD n d (t.k.num+2) (t.k.ep+1) t.k.s/\d.fuse=-1) /\ (¬ 2<=(t.g.mem t.k.ep).length->(Tg.new n t.k t.g).2=7)/\(2<=(t.g.mem t.k.ep).length->t.k.ep=1000000->(Tg.new n t.k t.g).2=6):=by
 obtain⟨n1,n2,n3⟩:=qJ (n:=n) (t:=Tg.start t.k t.g) h.kd h.fuse h.qi (by have:=h.kb; show t.k.num+2<_; omega) h.good;refine⟨λhm he=>n1 hm he,λhm=>?_,λhm he=>?_⟩
 .unfold Tg.new; rw[n2 hm]
 .unfold Tg.new; rw[n3 hm he]
theorem TI.new(h:TI n S B t){d:Dk}(hm:2<=(t.g.mem t.k.ep).length)(hd:KD n d (t.k.num+2) (t.k.ep+1) t.k.s)(hf:d.fuse=-1):TI n S (B+2) (Tg.start ⟨d,t.k.num+2,t.k.ep+1,t.k.s⟩ (t.g.fence (t.k.ep+1))):=by
 have Ly:=h.kb;have J9:=h.eb;have hn0:=h.n0;refine⟨hd,hf,by show t.k.num+2<=_; omega,by show t.k.ep+1<=_; omega,(kP h.qi hm).1,Bl.zero_ok,⟨by show(0:Int)<=0; omega,by show(0:Int)<=B+2; omega⟩,⟨by show(0:Int)<=0; omega,by show(0:Int)<=B+2; omega⟩,by simp[Tg.start],(λm hm=>by cases hm),by simp[Tg.start],(λm hm=>by cases hm),List.Pairwise.nil,(λm hm=>by cases hm),h.fa,h.al.fence h.fa.z _,λx hx=>?_⟩
 left
 show x.e<t.k.ep+1
 rcases h.sb x hx with hx | hx<;>omega
end
