import Derived.Lib.Hide
import Derived.Deep.RegionHeld
import Derived.Test.YtjalgpcigojpkaaGreatDoorProg
import Derived.WalkLawsBesides
import Derived.Lib.QuietBelow
import Derived.BigQuiet
import Derived.WalkSpells
import Derived.Lib.LazyBuf
namespace Go
open RowKit
theorem Hs(T:Prop)(h:T):Hid T:=h
theorem Hx{T:Prop}(h:T):Hid T:=h
theorem Gl{α:Type _}{a:Array α}{i:Nat}{v:α}(h:a[i]?=some v):i<a.size:=(Array.getElem?_eq_some_iff.mp h).1
theorem Nm{α:Sort _}(a:α):∃b,a=b:=⟨_,rfl⟩
theorem Nn{α:Sort _}(a:α):∃b,b=a:=⟨_,rfl⟩
theorem dead{b:Bool}{p:Prop}(h:b=true)(k:b=false:=by decide +kernel):p:=by rw[h]at k; cases k
theorem Hh{w:World}{b:Nat}{u:Obj}(o:Obj)(e:w.heap[b]?=some u):(w.alloc o).heap[b]?=some u:=(Below.heap_alloc _ _ _ (Gl e)).trans e
theorem GK{w w':World}(h:Below w.heap.size w w'){b:Nat}{u:Obj}(e:w.heap[b]?=some u):w'.heap[b]?=some u:=(h.block _ (Gl e)).trans e
theorem Hg{w:World}{V C t u:Nat}{x y:Array Value}{i j:Nat × Nat}(cs:Array Value)(hV:w.heap[V]?=some (.cells x t i))(hC:w.heap[C]?=some (.cells y u j))(ne:t≠u):(w.setRow V cs).heap[C]?=some (.cells y u j) :=
 (setRow_other _ _ _ _ (λq=>by subst q; rw[hV]at hC; cases hC; exact ne rfl)).trans hC
section
variable {P:Program} {ops:Array Oper} {Q:Exit->Act->World->Prop} {md:Region.Mode} {S:World->Prop} {fuel:Nat} {listed:Array Bool} {a:Act} {w:World}
theorem Hf{i:Nat}{o:Oper}(ho:ops[i]?=some o)
  (h:∀K':Act->World->Prop,Shut (∀a w,S w->(S w->wpAnyH P md ops Q S fuel (listed.setIfInBounds i true) a w)->K' a w)->if Region.wanted o (yielded ops a.tmps)=true then Oper.wp P o a w K' Q else K' (a.put o.dst undef) w) :
  wpOp P ops Q i (λa' w'=>S w'/\wpAnyH P md ops Q S fuel (listed.setIfInBounds i true) a' w') a w :=
 wpOp_step ho (λK' hK=>h K' (λa w hS hW=>hK a w ⟨hS,hW hS⟩))
theorem He(l:List Nat)(hl:((Region.ready md ops listed).all l.contains && !(Region.ready md ops listed).isEmpty)=true)(h:∀i∈l,(Region.ready md ops listed).contains i=true->wpOp P ops Q i (λa' w'=>S w'/\wpAnyH P md ops Q S fuel (listed.setIfInBounds i true) a' w') a w):wpAnyH P md ops Q S (fuel+1) listed a w:=by
 simp only[Bool.and_eq_true,List.all_eq_true,Bool.not_eq_true']at hl;refine wpAnyH_all rfl (λq=>?_) (λi hi=>h i (by simpa using hl.1 i hi) (by simpa using hi));rw[q]at hl; simp at hl
theorem eB(i:Nat){o:Oper}(h1:∀K':Act->World->Prop,Shut (∀a w,S w->(S w->wpAnyH P md ops Q S fuel (listed.setIfInBounds i true) a w)->K' a w)->if Region.wanted o (yielded ops a.tmps)=true then Oper.wp P o a w K' Q else K' (a.put (Oper.dst o) undef) w)(hr:Region.ready md ops listed=[i]:=by kernel_rfl)(g1:ops[i]?=some o:=by rfl) :
  wpAnyH P md ops Q S (fuel+1) listed a w:=wpAnyH_ready hr (by simp) (AllReadyH.cons g1 h1 AllReadyH.nil)
theorem DV(i j:Nat){o p:Oper}(h1:∀K':Act->World->Prop,Shut (∀a w,S w->(S w->wpAnyH P md ops Q S fuel (listed.setIfInBounds i true) a w)->K' a w)->if Region.wanted o (yielded ops a.tmps)=true then Oper.wp P o a w K' Q else K' (a.put (Oper.dst o) undef) w)(h2:∀K':Act->World->Prop,Shut (∀a w,S w->(S w->wpAnyH P md ops Q S fuel (listed.setIfInBounds j true) a w)->K' a w)->if Region.wanted p (yielded ops a.tmps)=true then Oper.wp P p a w K' Q else K' (a.put (Oper.dst p) undef) w)(hr:Region.ready md ops listed=[i,j]:=by kernel_rfl)(g1:ops[i]?=some o:=by rfl)(g2:ops[j]?=some p:=by rfl) :
  wpAnyH P md ops Q S (fuel+1) listed a w:=wpAnyH_ready hr (by simp) (AllReadyH.cons g1 h1 (AllReadyH.cons g2 h2 AllReadyH.nil))
theorem Ht(i j k:Nat){o p q:Oper}(h1:∀K':Act->World->Prop,Shut (∀a w,S w->(S w->wpAnyH P md ops Q S fuel (listed.setIfInBounds i true) a w)->K' a w)->if Region.wanted o (yielded ops a.tmps)=true then Oper.wp P o a w K' Q else K' (a.put (Oper.dst o) undef) w)(h2:∀K':Act->World->Prop,Shut (∀a w,S w->(S w->wpAnyH P md ops Q S fuel (listed.setIfInBounds j true) a w)->K' a w)->if Region.wanted p (yielded ops a.tmps)=true then Oper.wp P p a w K' Q else K' (a.put (Oper.dst p) undef) w)(h3:∀K':Act->World->Prop,Shut (∀a w,S w->(S w->wpAnyH P md ops Q S fuel (listed.setIfInBounds k true) a w)->K' a w)->if Region.wanted q (yielded ops a.tmps)=true then Oper.wp P q a w K' Q else K' (a.put (Oper.dst q) undef) w)(hr:Region.ready md ops listed=[i,j,k]:=by kernel_rfl)(g1:ops[i]?=some o:=by rfl)(g2:ops[j]?=some p:=by rfl)(g3:ops[k]?=some q:=by rfl) :
  wpAnyH P md ops Q S (fuel+1) listed a w:=wpAnyH_ready hr (by simp) (AllReadyH.cons g1 h1 (AllReadyH.cons g2 h2 (AllReadyH.cons g3 h3 AllReadyH.nil)))
end
end Go
namespace Go.Proofs.YtjalgpcigojpkaaGreatDoor
theorem wt{P:Program}{ops:Array Oper}{Q:Exit->Act->World->Prop}{md:Region.Mode}{S:World->Prop}(i:Nat)(v:Value){oi:Oper}{fuel:Nat}{listed:Array Bool}{a:Act}{w:World}(hS:S w)(h:wpAnyH P md ops Q S fuel (listed.setIfInBounds i true) (a.put oi.dst v) w)(hi:ops[i]?=some oi:=by rfl)(hb:(Region.noSelect ops && Region.free md ops listed i && (Region.ready md ops listed).contains i)=true:=by kernel_rfl)(hy:YieldsIf P ops S oi v a:=by exact Or.inl ⟨by rfl,λw' sT=>by go_simp<;>with_reducible rfl⟩)(hQ:∀c a w,Q (.panic c) (a.put oi.dst v) w->Q (.panic c) a w:=by exact λ_ _ _ h=>h):wpAnyH P md ops Q S (fuel+1) listed a w:=by
 simp only[Bool.and_eq_true]at hb;exact wpAnyH_take hi hb.1.1 hb.1.2 hb.2 hQ hy hS h
theorem wu{P:Program}{ops:Array Oper}{Q:Exit->Act->World->Prop}{md:Region.Mode}{S:World->Prop}(i:Nat)(v:Value){oi:Oper}{fuel:Nat}{listed:Array Bool}{a:Act}{w:World}(hS:S w)(h:wpAnyH P md ops Q S fuel (listed.setIfInBounds i true) (a.put oi.dst v) w)(hi:ops[i]?=some oi:=by rfl)(hb:(Region.noSelect ops && Region.free md ops listed i && (Region.ready md ops listed).contains i)=true:=by decide +kernel)(hy:YieldsIf P ops S oi v a:=by exact Or.inl ⟨by rfl,λw' sT=>by go_simp<;>with_reducible rfl⟩)(hQ:∀c a w,Q (.panic c) (a.put oi.dst v) w->Q (.panic c) a w:=by exact λ_ _ _ h=>h):wpAnyH P md ops Q S (fuel+1) listed a w:=wt i v hS h hi hb hy hQ
end Go.Proofs.YtjalgpcigojpkaaGreatDoor
namespace Go.Proofs.YtjalgpcigojpkaaGreatDoor
open Go.RowKit
structure St where
 gen:Int
 regs:List (Int × Int)
 typ:Int
 holder:Int
 stays:Bool
def keyOf:List (Int × Int)->Int->Int
 | [],_=>0
 | r :: l,who=>if r.1=who then r.2 else keyOf l who
def aU(n:Int):Bool:=decide (n=1\/n=3\/(5<=n/\n<=8))
def allT (n:Int):Bool:=decide (n=7\/n=8)
def pd(n:Int):Bool:=decide (5<=n)
def kW(n:Int):Bool:=decide (n=1\/n=5\/n=7)
def holds(s:St)(who:Int):Bool:=if s.typ=7\/s.typ=8 then decide (0<keyOf s.regs who) else decide (0<s.typ/\s.holder=who)
def ce (s:St)(who:Int)(write:Bool):Bool :=
 if s.typ=0 then true
 else if holds s who=true then true
 else if 5<=s.typ/\0<keyOf s.regs who then true
 else !write && kW s.typ
def eD (s:St)(who:Int)(write:Bool):Bool :=
 if s.typ=0 then true
 else if s.typ=1 then holds s who || !write
 else if s.typ=3 then holds s who
 else if s.typ=5\/s.typ=7 then decide (0<keyOf s.regs who) || !write
 else decide (0<keyOf s.regs who)
def aX:Int->List (Int × Int)->Int
 | _,[]=>0
 | prev,r :: l=>if r.1<1\/4<r.1\/r.2<1\/999<r.2 then 1 else if r.1<=prev then 2 else aX r.1 l
def ar(s:St):Int :=
 if s.gen<0\/1000000000<s.gen then 1
 else if aX 0 s.regs≠0 then aX 0 s.regs
 else if s.typ=0 then(if s.holder≠0 then 2 else 0)
 else if aU s.typ=false then 2
 else if 7<=s.typ then(if s.holder≠0\/s.regs.length=0 then 2 else 0)
 else if keyOf s.regs s.holder=0 then 2 else 0
structure Good (s:St):Prop where
 gen:0<=s.gen/\s.gen<=1000000000
 bounds:∀r∈s.regs,1<=r.1/\r.1<=4/\1<=r.2/\r.2<=999
 sorted:s.regs.Pairwise (λa b=>a.1<b.1)
 zero:s.typ=0->s.holder=0
 typ:s.typ≠0->aU s.typ=true
 all:7<=s.typ->s.holder=0/\s.regs≠[]
 one:s.typ≠0->s.typ<7->keyOf s.regs s.holder≠0
theorem gj:∀(l:List (Int × Int)) (p:Int),aX p l=0 ↔ (∀r∈l,1<=r.1/\r.1<=4/\1<=r.2/\r.2<=999/\p<r.1)/\l.Pairwise (λa b=>a.1<b.1)
 | [],p=>by simp[aX]
 | r :: l,p=>by
  have ih:=gj l r.1;unfold aX;by_cases h1:r.1<1\/4<r.1\/r.2<1\/999<r.2
  .rw[if_pos h1];constructor
   .intro h; cases h
   .intro h; have:=h.1 r (by simp); omega
  .rw[if_neg h1];by_cases h2:r.1<=p
   .rw[if_pos h2];constructor
    .intro h; cases h
    .intro h; have:=h.1 r (by simp); omega
   .rw[if_neg h2,ih,List.pairwise_cons];constructor
    .rintro⟨ha,hb⟩;refine⟨?_,λb Jk=>(ha b Jk).2.2.2.2,hb⟩;intro x hx
     rcases List.mem_cons.1 hx with rfl | hx
     .omega
     .have:=ha x hx; omega
    .rintro⟨ha,hb,hc⟩;refine⟨λx hx=>?_,hc⟩;have:=ha x (by simp[hx]);have:=hb x hx;omega
theorem fq(s:St):ar s=0 ↔ Good s:=by
 unfold ar;constructor
 .intro h;by_cases h1:s.gen<0\/1000000000<s.gen
  .rw[if_pos h1]at h; cases h
  rw[if_neg h1]at h;by_cases h2:aX 0 s.regs≠0
  .rw[if_pos h2]at h; exact absurd h h2
  rw[if_neg h2]at h;have h2':=(gj s.regs 0).1 (by omega)
  have hb:∀r∈s.regs,1<=r.1/\r.1<=4/\1<=r.2/\r.2<=999:=λr hr=>by have:=h2'.1 r hr; omega
  by_cases h3:s.typ=0
  .rw[if_pos h3]at h
   have h4:s.holder=0:=by
    by_cases h4:s.holder≠0
    .rw[if_pos h4]at h; cases h
    .omega
   exact⟨by omega,hb,h2'.2,λ_=>h4,λh=>absurd h3 h,λh=>by omega,λh=>absurd h3 h⟩
  rw[if_neg h3]at h;by_cases h4:aU s.typ=false
  .rw[if_pos h4]at h; cases h
  rw[if_neg h4]at h;by_cases h5:7<=s.typ
  .rw[if_pos h5]at h;by_cases h6:s.holder≠0\/s.regs.length=0
   .rw[if_pos h6]at h; cases h
   .exact⟨by omega,hb,h2'.2,λh=>absurd h h3,λ_=>by simpa using h4,λ_=>⟨by omega,λe=>h6 (.inr (by rw[e]; rfl))⟩,λ_ h=>by omega⟩
  .rw[if_neg h5]at h;by_cases h6:keyOf s.regs s.holder=0
   .rw[if_pos h6]at h; cases h
   .exact⟨by omega,hb,h2'.2,λh=>absurd h h3,λ_=>by simpa using h4,λh=>absurd h h5,λ_ _=>h6⟩
 .intro g
  rw[if_neg (by have:=g.gen; omega),if_neg (by
   have:=(gj s.regs 0).2 ⟨λr hr=>by have:=g.bounds r hr; omega,g.sorted⟩
   omega)]
  by_cases h3:s.typ=0
  .rw[if_pos h3,if_neg (by have:=g.zero h3; omega)]
  rw[if_neg h3,if_neg (by rw[g.typ h3]; simp)];by_cases h5:7<=s.typ
  .rw[if_pos h5,if_neg];have:=g.all h5;intro h
   rcases h with h | h
   .exact h this.1
   .exact this.2 (List.length_eq_zero_iff.1 h)
  .rw[if_neg h5,if_neg (g.one h3 (by omega))]
theorem iL(s:St)(g:Good s)(who:Int)(w:Bool):ce s who w=eD s who w:=by
 unfold ce eD;by_cases h0:s.typ=0
 .simp[h0]
 have ht:s.typ=1\/s.typ=3\/s.typ=5\/s.typ=6\/s.typ=7\/s.typ=8:=by have:=g.typ h0; simp[aU]at this; omega
 have hk:s.typ<7->s.holder=who->0<keyOf s.regs who:=by
  intro h e;have hn:=g.one h0 h;rw[e]at hn
  have:∀l:List (Int × Int),(∀r∈l,1<=r.1/\r.1<=4/\1<=r.2/\r.2<=999)->keyOf l who≠0->0<keyOf l who:=by
   intro l
   induction l with
   | nil=>intro _ h; exact absurd rfl h
   | cons r l ih =>
    intro hb hn;unfold keyOf at hn⊢;by_cases hr:r.1=who
    .rw[if_pos hr]at hn ⊢; have:=hb r (by simp); omega
    .rw[if_neg hr]at hn ⊢; exact ih (λx hx=>hb x (by simp[hx])) hn
  exact this _ g.bounds hn
 rcases ht with h | h | h | h | h | h<;>simp only[h]at hk ⊢<;>simp[holds,h,kW]
 all_goals
  by_cases hx:0<keyOf s.regs who
  .simp[hx]
  .by_cases hh:s.holder=who
   .exact absurd (hk (by omega) hh) hx
   .simp[hh,hx]
end Go.Proofs.YtjalgpcigojpkaaGreatDoor
namespace Go.Proofs.YtjalgpcigojpkaaGreatDoor
open Go.RowKit Go.Sort
theorem e9{k:IntKind}{a b:Int}(h:a=b):Ending.returned (.int k a)=Ending.returned (.int k b):=by rw[h]
theorem aA{a b:Bool}(h:a=b):Ending.returned (.bool a)=Ending.returned (.bool b):=by rw[h]
def bE(B:Nat)(w:World)(a:Option Addr)(l:List (Int × Int)):Prop :=
 ∀i (h:i<l.length),∃b o,a=some ⟨b,o,none⟩/\b<B/\w.cell? ⟨b,o+i*2,none⟩=some (.int .i64 (l[i]).1)/\w.cell? ⟨b,o+i*2+1,none⟩=some (.int .i64 (l[i]).2)
theorem bE.below{B C:Nat}{w w':World}{a:Option Addr}{l:List (Int × Int)}(h:bE B w a l)(hb:Below C w w')(hBC:B<=C):bE B w' a l:=by intro i hi;obtain⟨b,o,rfl,hbB,h1,h2⟩:=h i hi;exact⟨b,o,rfl,hbB,(hb.cell (p:=⟨b,o+i*2,none⟩) (by show b<C; omega)).trans h1,(hb.cell (p:=⟨b,o+i*2+1,none⟩) (by show b<C; omega)).trans h2⟩
theorem bE.mono{B C:Nat}{w:World}{a:Option Addr}{l:List (Int × Int)}(h:bE B w a l)(hBC:B<=C):bE C w a l:=by intro i hi;obtain⟨b,o,rfl,hbB,h1⟩:=h i hi;exact⟨b,o,rfl,by omega,h1⟩
theorem bE.nil(B:Nat)(w:World)(a:Option Addr):bE B w a []:=λi hi=>absurd hi (by simp)
theorem dr{W w1:World}(hb:Below W.heap.size W w1):(∀b o,b<W.heap.size->w1.cell? ⟨b,o,none⟩=W.cell? ⟨b,o,none⟩)/\(∀b o,b<W.heap.size->w1.frozen? ⟨b,o,none⟩=W.frozen? ⟨b,o,none⟩) :=
 ⟨λb o h=>hb.cell (p:=⟨b,o,none⟩) h,λb o h=>hb.frozen (p:=⟨b,o,none⟩) h⟩
theorem ay(w:World)(o:Obj):Below w.heap.size w (w.alloc o):=(Below.refl _ _).alloc (Nat.le_refl _) _
theorem EG{w w':World}{o:Obj}{n:Nat}(h:Below n (w.alloc o) w'):w.heap.size+1<=w'.heap.size:=by have:=h.size; simpa using this
theorem aT{w w':World}{o:Obj}{n:Nat}(h:Below n (w.alloc o) w')(hn:w.heap.size<=n):Below w.heap.size w w':=(ay w o).trans (h.mono hn)
theorem cH{W w1:World}(hb:Below W.heap.size W w1):∀(d:Nat) (os:Array Obj) (b o:Nat),b<W.heap.size->(grow (redrawn w1 d) os).cell? ⟨b,o,none⟩=W.cell? ⟨b,o,none⟩ :=
 λd os b o h=>(((below_regrown w1 d os).mono hb.size).cell (p:=⟨b,o,none⟩) h).trans (hb.cell (p:=⟨b,o,none⟩) h)
theorem aO(w:World)(A B C:Obj):(((w.alloc A).alloc B).alloc C).heap[w.heap.size]?=some A/\(((w.alloc A).alloc B).alloc C).heap[w.heap.size+1]?=some B/\(((w.alloc A).alloc B).alloc C).heap[w.heap.size+1+1]?=some C:=by
 have h1:(w.alloc A).heap[w.heap.size]?=some A:=heap_alloc_new _ _
 have h2:((w.alloc A).alloc B).heap[w.heap.size+1]?=some B:=by have:=heap_alloc_new (w.alloc A) B; simpa using this
 have h3:(((w.alloc A).alloc B).alloc C).heap[w.heap.size+1+1]?=some C:=by have:=heap_alloc_new ((w.alloc A).alloc B) C; simpa using this
 refine⟨?_,?_,h3⟩
 .rw[Below.heap_alloc _ _ _ (by simp; omega),Below.heap_alloc _ _ _ (by simp)]; exact h1
 .rw[Below.heap_alloc _ _ _ (by simp)]; exact h2
theorem bP{W w1:World}{n:Nat}(hb:Below n W w1){b:Nat}(hbn:b<n){v0 v1 v2 v3 v4:Value}{T:TypeId}(h:W.heap[b]?=some (.cells #[v0,v1,v2,v3,v4] T (0,0))) : (w1.cell? ⟨b,0,none⟩=some v0/\w1.cell? ⟨b,1,none⟩=some v1/\w1.cell? ⟨b,2,none⟩=some v2/\w1.cell? ⟨b,3,none⟩=some v3/\w1.cell? ⟨b,4,none⟩=some v4) /\ (w1.frozen? ⟨b,0,none⟩=false/\w1.frozen? ⟨b,1,none⟩=false/\w1.frozen? ⟨b,2,none⟩=false/\w1.frozen? ⟨b,3,none⟩=false/\w1.frozen? ⟨b,4,none⟩=false):=by
 have h1:w1.heap[b]?=some (.cells #[v0,v1,v2,v3,v4] T (0,0)):=(hb.block b hbn).trans h;simp[World.cell?,World.frozen?,h1]
abbrev dh(s:St)(a:Option Addr)(cap:Nat):Value:=.agg #[.int .i64 s.gen,.slice a s.regs.length cap,.int .i64 s.typ,.int .i64 s.holder,.bool s.stays]
structure bj (w:World) (s:St) (a:Option Addr):Prop where
 len:s.regs.length<=maxLen
 rep:bE w.heap.size w a s.regs
theorem bj.below{w w':World}{s:St}{a:Option Addr}(h:bj w s a)(hb:Below w.heap.size w w'):bj w' s a :=
 ⟨h.len,(h.rep.below hb (Nat.le_refl _)).mono hb.size⟩
end Go.Proofs.YtjalgpcigojpkaaGreatDoor
namespace Go.Proofs.YtjalgpcigojpkaaGreatDoor
open Go.RowKit
def ah(l:List (Int × Int)):List Value:=l.flatMap λr=>[.int .i64 r.1,.int .i64 r.2]
theorem aF(l:List (Int × Int)):(ah l).length=l.length*2:=by
 induction l with
 | nil=>rfl
 | cons r l ih=>simp[ah]at ih ⊢; omega
theorem bQ(l m:List (Int × Int)):ah (l ++ m)=ah l ++ ah m:=by simp[ah]
theorem ik:∀(l:List (Int × Int)) (i:Nat) (h:i<l.length),(ah l)[i*2]?=some (.int .i64 (l[i]).1)/\(ah l)[i*2+1]?=some (.int .i64 (l[i]).2)
 | r :: l,0,_=>by simp[ah]
 | r :: l,i+1,h=>by have:=ik l i (by simpa using h);have e:ah (r :: l)=.int .i64 r.1 :: .int .i64 r.2 :: ah l:=rfl;rw[e,show(i+1)*2=i*2+1+1 from by omega];simpa using this
theorem bC(l:List (Int × Int)):∀u∈ah l,u.oneCell'=true:=by
 intro u hu;simp only[ah,List.mem_flatMap,List.mem_cons,List.mem_nil_iff,or_false]at hu
 obtain⟨r,_,h | h⟩:=hu<;>subst h<;>rfl
def bX (B:Nat)(w:World)(v:Value)(l:List (Int × Int)):Prop:=w.ownsRow B 144 2 v l.length (ah l)
theorem bX.shape{B:Nat}{w:World}{v:Value}{l:List (Int × Int)}(h:bX B w v l):∃a cap,v=.slice a l.length cap/\bE w.heap.size w a l/\(a=none->cap=0):=by
 obtain⟨h1,h2⟩:=h
 rcases h2 with⟨rfl,hn⟩ | ⟨g,cap,cur,rfl,hg,hh,hc,hm,hs,ht⟩
 .have:l=[]:=List.length_eq_zero_iff.1 hn;subst this;exact⟨none,0,rfl,bE.nil _ _ _,λ_=>rfl⟩
 .refine⟨_,cap,rfl,λi hi=>?_,λe=>by cases e⟩
  have lB:g<w.heap.size:=(Gl hh)
  obtain⟨p1,p2⟩:=ik l i hi
  have wU:∀j,j<l.length*2->w.cell? ⟨g,0+j,none⟩=(ah l)[j]?:=by intro j hj;rw[<-ht,List.getElem?_take_of_lt hj];simp[World.cell?,hh]
  exact⟨g,0,rfl,lB,(wU _ (by omega)).trans p1,by rw[show 0+i*2+1=0+(i*2+1) from by omega]; exact(wU _ (by omega)).trans p2⟩
theorem Tryz.infoReg:(Tryz.prog.info? 144).map (λi=>(i.zero,i.size,i.bytes))=some (some (.agg #[.int .i64 0,.int .i64 0]),2,16):=by kernel_rfl
theorem gQ{B:Nat}{w:World}{b o:Nat}{l:List (Int × Int)}(h:bE B w (some ⟨b,o,none⟩) l):∀j u,(ah l)[j]?=some u->w.cell? ((⟨b,o,none⟩:Addr).add j)=some u:=by
 intro j u hj;have hl:=aF l
 have J8:j<l.length*2:=by have:=(List.getElem?_eq_some_iff.1 hj).1;omega
 obtain⟨b',o',e,hb,c1,c2⟩:=h (j / 2) (by omega)
 obtain⟨rfl,rfl⟩:b=b'/\o=o':=by simpa using e
 obtain⟨p1,p2⟩:=ik l (j / 2) (by omega)
 have Jm:(⟨b,o,none⟩:Addr).add j=⟨b,o+j,none⟩:=by unfold Addr.add; split<;>simp_all
 rw[Jm]
 rcases (by omega:j=j / 2*2\/j=j / 2*2+1) with e | e
 .rw[e]at hj ⊢;rw[p1]at hj;rw[<-hj]; exact c1
 .rw[e]at hj ⊢;rw[p2]at hj;rw[<-hj,show o+(j / 2*2+1)=o+j / 2*2+1 from by omega]; exact c2
theorem bX.blk{B:Nat}{w:World}{v:Value}{l:List (Int × Int)}(h:bX B w v l):∀k,v.ownBlock=some k->B<=k:=by
 obtain⟨_,h2⟩:=h
 rcases h2 with⟨rfl,_⟩ | ⟨g,cap,cur,rfl,hg,_⟩
 .intro k hk; cases hk
 .intro k hk; simp[Value.ownBlock]at hk; omega
theorem gp{B:Nat}{w:World}{v:Value}{l:List (Int × Int)}{x y:Int}(h:w.ownsRow B 144 2 v (l.length+1) (ah l ++ ah [(x,y)])):bX B w v (l ++ [(x,y)]):=by unfold bX;rw[bQ,List.length_append];exact h
theorem bX.below{B:Nat}{w w':World}{v:Value}{l:List (Int × Int)}(h:bX B w v l)(hb:Below w.heap.size w w'):bX B w' v l:=by
 obtain⟨h1,h2⟩:=h;refine⟨h1,?_⟩
 rcases h2 with h2 | ⟨g,cap,cur,e1,e2,e3,e4⟩
 .exact .inl h2
 .exact .inr ⟨g,cap,cur,e1,e2,by rw[hb.block g ((Gl e3))]; exact e3,e4⟩
theorem zI(l:List (Int × Int))(a:Option Addr)(cap:Nat)(w:World)(hl:l.length*16<=140737488355328)(hr:bE w.heap.size w a l) : Calls Tryz.prog 187 #[.slice a l.length cap] w λe w'=>∃v,e=.returned v/\bX w.heap.size w' v l/\Below w.heap.size w w':=by
 have hq:=λw=>Lib.run_eql_slice_nil (P:=Tryz.prog) w 32 144 a l.length cap 0 0 Tryz.underlying32;obtain⟨i0,hi,Ij,Ii,Im⟩:=info_parts Tryz.infoReg
 cases a with
 | none =>
  have hz:l=[]:=by
   cases l with
   | nil=>rfl
   | cons r l=>obtain⟨b,o,e,_⟩:=hr 0 (by simp); cases e
  subst hz;simp only[List.length_nil,Option.isNone_none]at hq ⊢;clear hi Ij Ii Im hr hl;go_enter Tryz.func187,Tryz.ntmps187
  go_wp2;go_ret;exact⟨_,rfl,⟨rfl,.inl ⟨rfl,rfl⟩⟩,Below.refl _ _⟩
 | some ad =>
  have JL:l=[]\/∃b o,ad=⟨b,o,none⟩/\b<w.heap.size:=by
   cases l with
   | nil=>exact .inl rfl
   | cons r l=>obtain⟨b,o,e,hb,_⟩:=hr 0 (by simp); exact .inr ⟨b,o,by simpa using e,hb⟩
  have IA:∀j u,(ah l)[j]?=some u->(w.alloc (.cells #[] 144)).cell? (ad.add j)=some u:=by
   rcases JL with rfl | ⟨b,o,rfl,hb⟩
   .intro j u h; simp[ah]at h
   .exact gQ (hr.below (ay w _) (Nat.le_refl _))
  have ec:(w.alloc (.cells #[] 144)).ownsRow w.heap.size 144 2 (.slice (some ⟨w.heap.size,0,none⟩) 0 0) 0 [] :=
   ⟨rfl,.inr ⟨w.heap.size,0,#[],rfl,Nat.le_refl _,heap_alloc_new _ _,Nat.le_refl _,by simp[maxLen],rfl,rfl⟩⟩
  go_enter Tryz.func187,Tryz.ntmps187
  go_wp2_with (at_builtin; refine wpList_append_own _ rfl _ _ 32 rfl w.heap.size 144 i0 (.agg #[.int .i64 0,.int .i64 0]) 2 16 Tryz.underlying32 hi Ij Ii Im rfl (by decide) _ _ _ rfl ec ad l.length cap (ah l) rfl (aF l) IA (bC l) ?c3 ?c4 ?c5 ?_)
  case c3=>unfold maxLen; omega
  case c4=>omega
  case c5=>simp
  intro v' w1 jZ Il _;go_wp2;go_ret;refine⟨_,rfl,?_,?_⟩
  .simpa[bX] using jZ
  .exact(ay w _).grown Il (by simp) (λk hk=>by simp[Value.ownBlock]at hk; omega)
theorem qR(l:List (Int × Int))(k:Nat)(h:k<l.length)(who:Int)(hw:(l[k].1 == who)=true)(hk:keyOf (l.drop k) who=keyOf l who):l[k].2=keyOf l who:=by rw[<-hk,List.drop_eq_getElem_cons h]; simp at hw; simp[keyOf,hw]
theorem pf(l:List (Int × Int))(k:Nat)(h:k<l.length)(who:Int)(hw:(l[k].1 == who)=false)(hk:keyOf (l.drop k) who=keyOf l who):keyOf (l.drop (k+1)) who=keyOf l who:=by rw[<-hk,List.drop_eq_getElem_cons h]; simp at hw; simp[keyOf,hw]
theorem qS(l:List (Int × Int))(k:Nat)(h:l.length<=k)(who:Int)(hk:keyOf (l.drop k) who=keyOf l who):(0:Int)=keyOf l who:=by rw[<-hk,List.drop_of_length_le h]; rfl
theorem eN(s:St)(a:Option Addr)(cap:Nat)(who:Int)(w:World)(hr:bj w s a) : Calls Tryz.prog 92 #[dh s a cap,.int .i64 who] w λe w'=>e=.returned (.int .i64 (keyOf s.regs who))/\Below w.heap.size w w':=by
 obtain⟨g,l,t,h,st⟩:=s;obtain⟨hl,hr⟩:=hr;unfold maxLen at hl;dsimp only at hl hr;go_enter Tryz.func92,Tryz.ntmps92
 go_wp2;go_loopw [10] (λi wr=>∃k:Nat,k<=l.length/\i=.int .i64 k/\keyOf (l.drop k) who=keyOf l who/\Below (w.heap.size+1) (w.alloc (.cells #[.int .i64 g,.slice a l.length cap,.int .i64 t,.int .i64 h,.bool st] 34)) wr) (λi _=>l.length - (intOf i).toNat)
 case atStart=>exact⟨0,by omega,rfl,rfl,Below.refl _ _⟩
 case round =>
  obtain⟨k,hk,rfl,hK,hb⟩:=hrel;have HK:=Hx hK; clear hK;have hs:=EG hb;by_cases lB:k<l.length
  .obtain⟨b,o,rfl,Ix,h1,h2⟩:=hr k lB;have c1:=((aT hb (by omega)).cell (p:=⟨b,o+k*2,none⟩) Ix).trans h1;have c2:=((aT hb (by omega)).cell (p:=⟨b,o+k*2+1,none⟩) Ix).trans h2;clear hr;go_wp2
   .have hw:(l[k].1 == who)=true:=by assumption
    go_ret;exact⟨e9 (qR l k lB who hw HK.out),(aT hb (by omega)).trans ((ay wr _).mono (by omega))⟩
   .have hw:(l[k].1 == who)=false:=by assumption
    go_roundw
    case rel=>exact⟨k+1,by omega,by go_num,pf l k lB who hw HK.out,hb.alloc (by omega) _⟩
    case measure=>simp[intOf]; omega
  .go_wp2;go_ret;exact⟨e9 (qS l k (by omega) who HK.out),aT hb (by omega)⟩
theorem cS(s:St)(a:Option Addr)(cap:Nat)(w:World) : Calls Tryz.prog 135 #[dh s a cap] w λe w'=>e=.returned (.bool (allT s.typ))/\Below w.heap.size w w':=by
 obtain⟨g,l,t,h,st⟩:=s;dsimp only;by_cases h7:t=7
 .subst h7;go_enter Tryz.func135,Tryz.ntmps135
  go_wp2;go_ret;exact⟨rfl,ay w _⟩
 .by_cases h8:t=8
  .subst h8;go_enter Tryz.func135,Tryz.ntmps135
   go_wp2;go_ret;exact⟨rfl,ay w _⟩
  .go_enter Tryz.func135,Tryz.ntmps135
   go_wp2;go_ret;exact⟨aA (by simp[allT,h7,h8]),ay w _⟩
def Ints (B:Nat)(w:World)(a:Option Addr)(l:List Int):Prop :=
 ∀i (h:i<l.length),∃b o,a=some ⟨b,o,none⟩/\b<B/\w.cell? ⟨b,o+i,none⟩=some (.int .i64 l[i])
theorem Ints.below{B C:Nat}{w w':World}{a:Option Addr}{l:List Int}(h:Ints B w a l)(hb:Below C w w')(hBC:B<=C):Ints B w' a l:=by intro i hi;obtain⟨b,o,rfl,hbB,h1⟩:=h i hi;exact⟨b,o,rfl,hbB,(hb.cell (p:=⟨b,o+i,none⟩) (by show b<C; omega)).trans h1⟩
theorem Ints.mono{B C:Nat}{w:World}{a:Option Addr}{l:List Int}(h:Ints B w a l)(hBC:B<=C):Ints C w a l:=by intro i hi;obtain⟨b,o,rfl,hbB,h1⟩:=h i hi;exact⟨b,o,rfl,by omega,h1⟩
theorem Ints.nil(B:Nat)(w:World)(a:Option Addr):Ints B w a []:=λi hi=>absurd hi (by simp)
def placeOf(v:Int):List Int->Int
 | []=>-1
 | x :: l=>if x=v then 0 else if placeOf v l<0 then -1 else placeOf v l+1
theorem fP(v:Int):∀l:List Int,v ∉ l->placeOf v l=-1
 | [],_=>rfl
 | x :: l,h=>by simp at h;unfold placeOf;rw[if_neg (λe=>h.1 e.symm),fP v l h.2,if_pos (by omega)]
theorem iM(v:Int):∀(l:List Int) (k:Nat) (h:k<l.length),l[k]=v->(∀j (hj:j<k),l[j]≠v)->placeOf v l=k
 | x :: l,0,_,he,_=>by
  simp at he;unfold placeOf; rw[if_pos he]; rfl
 | x :: l,k+1,h,he,hn=>by have h0:x≠v:=hn 0 (by omega);have ih:=iM v l k (by simpa using h) (by simpa using he) (λj hj=>hn (j+1) (by omega));unfold placeOf;rw[if_neg h0,ih,if_neg (by omega)]; omega
theorem zb(l:List Int)(a:Option Addr)(cap:Nat)(v:Int)(w:World)(hl:l.length<=maxLen)(hr:Ints w.heap.size w a l) : Calls Tryz.prog 160 #[.slice a l.length cap,.int .i64 v] w λe w'=>e=.returned (.int .i64 (placeOf v l))/\w=w':=by
 unfold maxLen at hl;go_enter Tryz.func160,Tryz.ntmps160
 go_wp2;go_loop [8] (λi=>∃k:Nat,k<=l.length/\i=.int .i64 k/\∀j (_:j<k) (hj:j<l.length),l[j]≠v) (λi=>l.length - (intOf i).toNat)
 case atStart=>exact⟨0,by omega,rfl,λj h=>absurd h (by omega)⟩
 case round =>
  obtain⟨k,hk,rfl,hK⟩:=hrel;have HK:=Hx hK; clear hK;by_cases lB:k<l.length
  .obtain⟨b,o,rfl,Ix,h1⟩:=hr k lB;clear hr;by_cases hv:v=l[k]
   .have hvb:(v == l[k])=true:=by simp[hv]
    have hp:=iM v l k lB hv.symm (λj hj=>HK.out j hj (by omega));have HP:=Hx hp;clear hp hv;go_wp2;go_ret;exact⟨e9 HP.out.symm,rfl⟩
   .have hvb:(v == l[k])=false:=by simp[hv]
    have hn:∀j (_:j<k+1) (hj:j<l.length),l[j]≠v:=by
     intro j h1 h2;by_cases e:j=k
     .subst e; exact λe=>hv e.symm
     .exact HK.out j (by omega) h2
    have HN:=Hx hn;clear hn hv;go_wp2;go_round
    case rel=>exact⟨k+1,by omega,by go_num,HN.out⟩
    case measure=>simp[intOf]; omega
  .have hp:placeOf v l=-1:=fP v l (λhm=>by
    obtain⟨j,hj,e⟩:=List.getElem_of_mem hm
    exact HK.out j (by omega) hj e)
   have HP:=Hx hp;clear hp;go_wp2;go_ret;exact⟨e9 HP.out.symm,rfl⟩
theorem sK(l:List Int)(a:Option Addr)(cap:Nat)(v:Int)(w:World)(hl:l.length<=maxLen)(hr:Ints w.heap.size w a l) : Calls Tryz.prog 123 #[.slice a l.length cap,.int .i64 v] w λe w'=>e=.returned (.bool (decide (0<=placeOf v l)))/\w=w':=by
 go_enter Tryz.func123,Tryz.ntmps123
 go_wp2_with fail;refine(zb l a cap v w hl hr).mono ?_;rintro e w1 ⟨rfl,rfl⟩;go_wp2;go_ret;exact⟨rfl,rfl⟩
theorem vF(n:Int):decide (0<=placeOf n [1,3,5,6,7,8])=aU n:=by
 have:placeOf n [1,3,5,6,7,8]=if n=1 then 0 else if n=3 then 1 else if n=5 then 2 else if n=6 then 3 else if n=7 then 4 else if n=8 then 5 else -1:=by
  simp only[placeOf,eq_comm (b:=n)]
  repeat' split
  all_goals omega
 rw[this];unfold aU;rw[decide_eq_decide]
 repeat' split
 all_goals omega
theorem fY(n:Int)(w:World) : Calls Tryz.prog 82 #[.int .i64 n] w λe w'=>e=.returned (.bool (aU n))/\Below w.heap.size w w':=by
 rw[<-vF];go_enter Tryz.func82,Tryz.ntmps82
 go_wp2_with fail;refine(sK [1,3,5,6,7,8] _ 6 n _ (by simp[maxLen]) ?_).mono ?_
 .intro i hi;refine⟨w.heap.size,0,rfl,by simp,?_⟩
  match i,hi with
  | 0,_=>simp
  | 1,_=>simp
  | 2,_=>simp
  | 3,_=>simp
  | 4,_=>simp
  | 5,_=>simp
 rintro e w1 ⟨rfl,rfl⟩;go_wp2;go_ret;exact⟨rfl,ay w _⟩
theorem qk(x y who:Int)(b o:Nat)(w:World)(hp:w.cell? ⟨b,o,none⟩=some (.int .i64 who)) : Calls Tryz.prog 188 #[.agg #[.int .i64 x,.int .i64 y],.pointer (some ⟨b,o,none⟩)] w λe w'=>e=.returned (.bool (x == who))/\Below w.heap.size w w':=by
 have hb:b<w.heap.size:=block_lt_of_cell hp;go_enter Tryz.func188,Tryz.ntmps188
 go_wp2;go_ret;exact⟨rfl,ay w _⟩
theorem j7(l:List (Int × Int))(a:Option Addr)(cap:Nat)(who:Int)(b o:Nat)(w:World)(hl:l.length<=maxLen)(hr:bE w.heap.size w a l)(hp:w.cell? ⟨b,o,none⟩=some (.int .i64 who)) : Calls Tryz.prog 210 #[.slice a l.length cap,.func (.func 188) #[] #[.pointer (some ⟨b,o,none⟩)]] w λe w'=>e=.returned (.int .i64 (placeOf who (l.map (·.1))))/\Below w.heap.size w w':=by
 unfold maxLen at hl;have hb:b<w.heap.size:=block_lt_of_cell hp;go_enter Tryz.func210,Tryz.ntmps210
 go_wp2;go_loopw [8] (λi wr=>∃k:Nat,k<=l.length/\i=.int .i64 k/\(∀j (_:j<k) (hj:j<l.length),l[j].1≠who)/\Below w.heap.size w wr) (λi _=>l.length - (intOf i).toNat)
 case atStart=>exact⟨0,by omega,rfl,λj h=>absurd h (by omega),Below.refl _ _⟩
 case round =>
  obtain⟨k,hk,rfl,hK,Ir⟩:=hrel;have HK:=Hx hK; clear hK;have hs:=Ir.size;by_cases lB:k<l.length
  .obtain⟨b',o',rfl,Ix,h1,h2⟩:=hr k lB;have c1:=(Ir.cell (p:=⟨b',o'+k*2,none⟩) Ix).trans h1;have c2:=(Ir.cell (p:=⟨b',o'+k*2+1,none⟩) Ix).trans h2;have cp:=(Ir.cell (p:=⟨b,o,none⟩) hb).trans hp;clear hr;go_wp2_with fail;refine(qk _ _ who b o _ cp).mono ?_;rintro e w1 ⟨rfl,wC⟩;have Ih:=Ir.trans (wC.mono hs);by_cases hv:l[k].1=who
   .have hvb:(l[k].1 == who)=true:=by simp[hv]
    have JI:=iM who (l.map (·.1)) k (by simpa using lB) (by simpa using hv) (λj hj=>by simpa using HK.out j hj (by omega));have HP:=Hx JI;clear JI hv;go_wp2;go_ret;exact⟨e9 HP.out.symm,Ih⟩
   .have hvb:(l[k].1 == who)=false:=by simp[hv]
    have hn:∀j (_:j<k+1) (hj:j<l.length),l[j].1≠who:=by
     intro j h1 h2;by_cases e:j=k
     .subst e; exact hv
     .exact HK.out j (by omega) h2
    have HN:=Hx hn;clear hn hv;go_wp2;go_roundw
    case rel=>exact⟨k+1,by omega,by go_num,HN.out,Ih⟩
    case measure=>simp[intOf]; omega
  .have JI:placeOf who (l.map (·.1))=-1:=fP who _ (λhm=>by
    obtain⟨r,NF,e⟩:=List.mem_map.1 hm;obtain⟨j,hj,e2⟩:=List.getElem_of_mem NF
    exact HK.out j (by omega) hj (by rw[e2]; exact e))
   have HP:=Hx JI;clear JI;go_wp2;go_ret;exact⟨e9 HP.out.symm,Ir⟩
def without(who:Int)(l:List (Int × Int)):List (Int × Int):=l.filter λr=>!(r.1 == who)
theorem gI(who:Int)(l:List (Int × Int))(h:∀r∈l,r.1≠who):without who l=l:=by unfold without;rw[List.filter_eq_self];intro r hr;simp[h r hr]
theorem de(who:Int)(l:List (Int × Int))(k:Nat)(h:k<l.length)(e:l[k].1=who):without who (l.take (k+1))=without who (l.take k):=by rw[List.take_succ_eq_append_getElem h];unfold without;rw[List.filter_append];simp only[List.filter_cons,List.filter_nil];simp[e]
theorem eE(who:Int)(l:List (Int × Int))(k:Nat)(h:k<l.length)(e:l[k].1≠who):without who (l.take (k+1))=without who (l.take k) ++ [l[k]]:=by rw[List.take_succ_eq_append_getElem h];unfold without;rw[List.filter_append];simp only[List.filter_cons,List.filter_nil];simp[e]
structure nC (who:Int) (l:List (Int × Int)) (cur:Array Value) (k i:Nat):Prop where
 len:i=(without who (l.take k)).length
 pre:cur.toList.take (i*2)=ah (without who (l.take k))
 rest:∀m (h:m<l.length),k<=m->cur[m*2]?=some (.int .i64 l[m].1)/\cur[m*2+1]?=some (.int .i64 l[m].2)
 lt:i<k
 size:l.length*2<=cur.size
theorem AE{l:List (Int × Int)}{cur:Array Value}(h:cur.toList.take (l.length*2)=ah l)(m:Nat)(hm:m<l.length):cur[m*2]?=some (.int .i64 l[m].1)/\cur[m*2+1]?=some (.int .i64 l[m].2):=by
 obtain⟨p1,p2⟩:=ik l m hm
 have wU:∀j,j<l.length*2->cur[j]?=(ah l)[j]?:=by intro j hj;rw[<-h,List.getElem?_take_of_lt hj]; simp
 exact⟨(wU _ (by omega)).trans p1,(wU _ (by omega)).trans p2⟩
theorem nC.start{who:Int}{l:List (Int × Int)}{cur:Array Value}{k:Nat}(hk:k<l.length)(e:l[k].1=who)(hn:∀j (_:j<k) (hj:j<l.length),l[j].1≠who)(hc:cur.toList.take (l.length*2)=ah l)(hs:l.length*2<=cur.size) : nC who l cur (k+1) k:=by
 have hw:without who (l.take k)=l.take k:=gI who _ (λr hr=>by
  obtain⟨j,hj,rfl⟩:=List.getElem_of_mem hr;rw[List.length_take]at hj;rw[List.getElem_take]
  exact hn j (by omega) (by omega))
 refine⟨?_,?_,λm hm _=>AE hc m hm,by omega,hs⟩
 .rw[de who l k hk e,hw]; simp; omega
 .rw[de who l k hk e,hw]
  have:(cur.toList.take (l.length*2)).take (k*2)=(ah l).take (k*2):=by rw[hc]
  rw[List.take_take,Nat.min_eq_left (by omega)]at this;rw[this]
  have h2:ah l=ah (l.take k) ++ ah (l.drop k):=by rw[<-bQ,List.take_append_drop]
  rw[h2,List.take_append_of_le_length (by rw[aF]; simp; omega),List.take_of_length_le (by rw[aF]; simp; omega)]
theorem nC.drop{who:Int}{l:List (Int × Int)}{cur:Array Value}{k i:Nat}(h:nC who l cur k i)(hk:k<l.length)(e:l[k].1=who):nC who l cur (k+1) i :=
 ⟨by rw[de who l k hk e]; exact h.len,by rw[de who l k hk e]; exact h.pre,λm hm hkm=>h.rest m hm (by omega),by have:=h.lt; omega,h.size⟩
theorem nC.keep{who:Int}{l:List (Int × Int)}{cur:Array Value}{k i:Nat}(h:nC who l cur k i)(hk:k<l.length)(e:l[k].1≠who) : nC who l ((cur.setIfInBounds (i*2) (.int .i64 l[k].1)).setIfInBounds (i*2+1) (.int .i64 l[k].2)) (k+1) (i+1):=by
 have lB:=h.lt;have hsz:=h.size;refine⟨?_,?_,λm hm hkm=>?_,by omega,by simpa using h.size⟩
 .rw[eE who l k hk e]; simp[<-h.len]
 .rw[eE who l k hk e,bQ,<-h.pre];apply List.ext_getElem?;intro j;rw[List.getElem?_append]
  have hl:(cur.toList.take (i*2)).length=i*2:=by simp; omega
  rw[hl];by_cases hj:j<i*2
  .rw[if_pos hj,List.getElem?_take_of_lt (by omega),List.getElem?_take_of_lt hj];simp only[Array.getElem?_toList,Array.getElem?_setIfInBounds];rw[if_neg (by omega),if_neg (by omega)]
  .rw[if_neg hj];by_cases MV:j<(i+1)*2
   .rw[List.getElem?_take_of_lt MV];simp only[Array.getElem?_toList,Array.getElem?_setIfInBounds,Array.size_setIfInBounds]
    rcases (by omega:j=i*2\/j=i*2+1) with rfl | rfl
    .rw[if_neg (by omega),if_pos rfl,if_pos (by omega)]; simp[ah]
    .rw[if_pos rfl,if_pos (by omega)]; simp[ah]
   .rw[List.getElem?_eq_none (by simp; omega),List.getElem?_eq_none (by simp[ah]; omega)]
 .have:=h.rest m hm (by omega);simp only[Array.getElem?_setIfInBounds];rw[if_neg (by omega),if_neg (by omega),if_neg (by omega),if_neg (by omega)];exact this
theorem nC.fin{who:Int}{l:List (Int × Int)}{cur:Array Value}{i:Nat}(h:nC who l cur l.length i):i=(without who l).length/\cur.toList.take (i*2)=ah (without who l):=by have h1:=h.len;have h2:=h.pre;rw[List.take_length]at h1 h2;exact⟨h1,h2⟩
theorem qh(n:Nat):(Builtin.zeroCells #[.int .i64 0,.int .i64 0] n).toList=List.replicate (n*2) (Value.int .i64 0):=by
 simp[Builtin.zeroCells];apply List.ext_getElem
 .simp
 .intro i h1 h2;simp
  rcases (by omega:i % 2=0\/i % 2=1) with e | e<;>simp[e]
theorem pT(w:World)(g o n c:Nat)(ty:TypeId)(cur:Array Value)(hn:0<n)(hg:w.heap[g]?=some (.cells cur 144 (0,0)))(ho:o+n*2<=cur.size) : (Builtin.clear_ #[32] ty #[.slice (some ⟨g,o,none⟩) n c]).run Tryz.prog w=.ok (.tuple #[]) (w.setRow g (cur.toList.take o ++ List.replicate (n*2) (Value.int .i64 0) ++ cur.toList.drop (o+n*2)).toArray):=by
 have hv:∀w,(zeroValue 144).run Tryz.prog w=.ok (.agg #[.int .i64 0,.int .i64 0]) w:=λw=>by kernel_rfl
 have I7:=run_storeCells_at (P:=Tryz.prog) g o 144 (List.replicate (n*2) (Value.int .i64 0)) 0 cur w hg (by simpa using ho) (λv hv'=>by rw[List.eq_of_mem_replicate hv']; rfl);simp only[Nat.add_zero,List.length_replicate]at I7
 obtain⟨m,rfl⟩:∃m,n=m+1:=⟨n - 1,by omega⟩
 have hz:=qh (m+1);simp[Builtin.clear_,run_underlying Tryz.underlying32,hv,Value.cells,hz,I7]
theorem pR(w:World)(g i:Nat)(cur:Array Value)(x y:Value)(hg:w.heap[g]?=some (.cells cur 144 (0,0))) : ((w.setCell ⟨g,i,none⟩ x).setCell ⟨g,i+1,none⟩ y).heap[g]?=some (.cells ((cur.setIfInBounds i x).setIfInBounds (i+1) y) 144 (0,0)) :=
 heap_setCell_same _ _ _ _ _ _ (heap_setCell_same _ _ _ _ _ _ hg)
theorem aN{B:Nat}{a w:World}(h:Below B a w){g:Nat}(hg:B<=g)(cs:Array Value):Below B a (w.setRow g cs) :=
 h.trans ⟨rfl,rfl,rfl,by simp,λk hk=>by simp only[World.setRow,Array.getElem?_modify]; rw[if_neg (by omega)]⟩
set_option maxHeartbeats 1000000 in
theorem pF(l:List (Int × Int))(v:Value)(B:Nat)(who:Int)(b o:Nat)(w:World)(hl:l.length<=maxLen)(hr:bX B w v l)(hp:w.cell? ⟨b,o,none⟩=some (.int .i64 who))(hbB:b<B)(hBw:B<=w.heap.size) : Calls Tryz.prog 186 #[v,.func (.func 188) #[] #[.pointer (some ⟨b,o,none⟩)]] w λe w'=>∃v',e=.returned v'/\bX B w' v' (without who l)/\Below B w w':=by
 have hb:b<w.heap.size:=block_lt_of_cell hp;have hr0:=hr;obtain⟨a,cap,hv,Lt,_⟩:=hr.shape;by_cases hm:∀r∈l,r.1≠who
 .have JI:placeOf who (l.map (·.1))=-1:=fP who _ (λhm'=>by
   obtain⟨r,NF,e⟩:=List.mem_map.1 hm'
   exact hm r NF e)
  have hw:without who l=l:=gI who l hm;rw[hw];subst hv;clear hm;have HP:=Hx JI;clear JI hw;unfold maxLen at hl;go_enter Tryz.func186,Tryz.ntmps186
  go_wp2_with fail;refine((j7 l a cap who b o w (by unfold maxLen; omega) Lt hp).mono (λe w' h=>(⟨by rw[h.1,HP.out],h.2⟩:e=.returned (.int .i64 (-1))/\Below w.heap.size w w'))).mono ?_;rintro e w1 ⟨rfl,wC⟩;go_wp2;go_ret;refine⟨_,rfl,?_,wC.mono hBw⟩;obtain⟨h1,h2⟩:=hr0;refine⟨h1,?_⟩
  rcases h2 with h2 | ⟨g,cap',cur,e1,e2,e3,e4⟩
  .exact .inl h2
  .exact .inr ⟨g,cap',cur,e1,e2,by rw[wC.block g ((Gl e3))]; exact e3,e4⟩
 .obtain⟨k0,LH,hk0e,hk0n⟩:∃k,∃h:k<l.length,l[k].1=who/\∀j (_:j<k) (hj:j<l.length),l[j].1≠who:=by
   clear hr hr0 Lt hv
   induction l with
   | nil=>exact absurd (λr h=>by cases h) hm
   | cons r l ih =>
    by_cases e:r.1=who
    .exact⟨0,by simp,e,λj h=>absurd h (by omega)⟩
    .obtain⟨k,hk,h1,h2⟩:=ih (by simp at hl; omega) (λh=>hm (λx hx=>by
      rcases List.mem_cons.1 hx with rfl | hx
      .exact e
      .exact h x hx))
     refine⟨k+1,by simp; omega,by simpa using h1,λj hj J8=>?_⟩
     cases j with
     | zero=>exact e
     | succ j=>simpa using h2 j (by omega) (by simpa using J8)
  have JI:placeOf who (l.map (·.1))=k0:=iM who _ k0 (by simpa using LH) (by simpa using hk0e) (λj hj=>by simpa using hk0n j hj (by omega));have HP:=Hx JI;obtain⟨h1,h2⟩:=hr0
  rcases h2 with⟨_,h0⟩ | ⟨g,cap',cur,e1,hgB,LJ,hnc,MY,Iu,Lp⟩
  .omega
  .have I7:=nC.start LH hk0e hk0n Lp (by omega);have Jb:=Hx I7;obtain rfl:v=.slice (some ⟨g,0,none⟩) l.length cap':=e1
   obtain⟨rfl,rfl⟩:a=some ⟨g,0,none⟩/\cap=cap':=by simpa[eq_comm] using hv
   clear JI I7 hk0n hm Lp h1 hr;have HK0:=Hx hk0e;clear hk0e hv
   have LI:g<w.heap.size:=(Gl LJ)
   unfold maxLen at hl MY;go_enter Tryz.func186,Tryz.ntmps186
   go_wp2_with fail;refine((j7 l _ cap who b o w (by unfold maxLen; omega) Lt hp).mono (λe w' h=>(⟨by rw[h.1,HP.out],h.2⟩:e=.returned (.int .i64 k0)/\Below w.heap.size w w'))).mono ?_;rintro e w1 ⟨rfl,wC⟩
   have hk0b:((k0:Int) == -1)=false:=by simp
   go_wp2;go_loopw [5,6] (λi j wr=>∃(k n:Nat) (cr:Array Value),k<=l.length/\j=.int .i64 k/\i=.int .i64 n/\wr.heap[g]?=some (.cells cr 144 (0,0))/\cr.size=cap*2/\nC who l cr k n/\Below B w wr/\w.heap.size<=wr.heap.size) (λ_ j _=>l.length - (intOf j).toNat)
   case atStart=>exact⟨k0+1,k0,cur,by omega,by go_num,rfl,by rw[wC.block g LI]; exact LJ,Iu,Jb.out,wC.mono hBw,wC.size⟩
   case round =>
    obtain⟨k,n,cr,hk,rfl,rfl,MW,hcr,hD,Ir,hsz⟩:=hrel;have hDlt:=hD.lt;have HD:=Hx hD;clear hD;by_cases lB:k<l.length
    .obtain⟨r1,r2⟩:=HD.out.rest k lB (Nat.le_refl _)
     have c1:wr.cell? ⟨g,k*2,none⟩=some (.int .i64 l[k].1):=by simp[World.cell?,MW,r1]
     have c2:wr.cell? ⟨g,k*2+1,none⟩=some (.int .i64 l[k].2):=by simp[World.cell?,MW,r2]
     have cp:=(Ir.cell (p:=⟨b,o,none⟩) hbB).trans hp;have cpa:∀ob,(wr.alloc ob).cell? ⟨b,o,none⟩=some (.int .i64 who):=λob=>((ay wr ob).cell (p:=⟨b,o,none⟩) (by show b<_; omega)).trans cp;have HG:=Hx MW;clear MW r1 r2;go_wp2_with fail;refine(qk _ _ who b o _ (cpa _)).mono ?_;rintro e w2 ⟨rfl,Ih⟩;have IK:Below wr.heap.size wr w2:=aT Ih (by simp);have Nh:=EG Ih
     have Ja:w2.heap[g]?=some (.cells cr 144 (0,0)):=by rw[IK.block g (by omega)]; exact HG.out
     have lc:∀j,w2.cell? ⟨wr.heap.size,j,none⟩=(wr.alloc (.cells #[.int .i64 l[k].1,.int .i64 l[k].2] 144)).cell? ⟨wr.heap.size,j,none⟩:=λj=>Ih.cell (p:=⟨wr.heap.size,j,none⟩) (by simp);by_cases he:l[k].1=who
     .have J9:(l[k].1 == who)=true:=by simp[he]
      have HD':=Hx (HD.out.drop lB he);have HG2:=Hx Ja;clear he Ja;go_wp2;go_roundw
      case rel=>exact⟨k+1,n,cr,by omega,by go_num,rfl,HG2.out,hcr,HD'.out,Ir.trans (IK.mono (by omega)),by omega⟩
      case measure=>simp[intOf]; omega
     .have J9:(l[k].1 == who)=false:=by simp[he]
      have HD':=Hx (HD.out.keep lB he);have hcs2:=HD.out.size
      have d1:(w2.cell? ⟨g,n*2,none⟩)=some (cr[n*2]'(by omega)):=by simp[World.cell?,Ja]
      have d2:(w2.cell? ⟨g,n*2+1,none⟩)=some (cr[n*2+1]'(by omega)):=by simp[World.cell?,Ja]
      have d3:w2.frozen? ⟨g,n*2,none⟩=false:=by simp[World.frozen?,Ja]
      have d4:w2.frozen? ⟨g,n*2+1,none⟩=false:=by simp[World.frozen?,Ja]
      have HG2:=Hx Ja;clear he Ja;go_wp2;go_roundw
      case rel=>exact⟨k+1,n+1,_,by omega,by go_num,by go_num,pR _ _ _ _ _ _ HG2.out,by simpa using hcr,HD'.out,((Ir.trans (IK.mono (by omega))).setCell hgB _).setCell hgB _,by simp[World.setCell]; omega⟩
      case measure=>simp[intOf]; omega
    .obtain rfl:k=l.length:=by omega
     obtain⟨f1,f2⟩:=HD.out.fin;have F1:=Hx f1;have F2:=Hx f2;clear f1 f2
     have hn2:n*2+(l.length - n)*2<=cr.size:=by omega
     have hcl:=λty c=>pT wr g (n*2) (l.length - n) c ty cr (by omega) MW hn2;go_wp2;go_ret;refine⟨_,rfl,?_,Ir.trans (aN (Below.refl _ _) hgB _)⟩;refine⟨aF _,.inr ⟨g,cap,_,(by show Value.slice (some ⟨g,0,none⟩) n cap=_; rw[<-F1.out]),hgB,setRow_heap _ _ _ _ _ _ MW,by rw[<-F1.out]; omega,by unfold maxLen; omega,?_,?_⟩⟩
     .simp; omega
     .rw[<-F1.out]
      have Lh:(cr.toList.take (n*2)).length=n*2:=by simp; omega
      show List.take (n*2) (cr.toList.take (n*2) ++ _)=_;rw[List.take_append_of_le_length (by omega),List.take_of_length_le (by omega)];exact F2.out
end Go.Proofs.YtjalgpcigojpkaaGreatDoor
