/-
  Tr, Tgm1, Tgm2
-/
import Derived.Test.YtbkmdmmgalmmaaaGreatDoorQ11
import Derived.Test.YtbkmdmmgalmmaaaGreatDoorQ24
import Derived.Test.YtbkmdmmgalmmaaaGreatDoorQ25
import Derived.Test.YtbkmdmmgalmmaaaGreatDoorQ27
import Derived.Test.YtbkmdmmgalmmaaaGreatDoorQ08
import Derived.Deep.DeepCutAuto
namespace Go.Proofs.YtbkmdmmgalmmaaaGreatDoor
open Go.RowKit Go.Sort
structure Tm where
 K:Nat
 W:Nat
 N:Nat
 b:Bx
 fa:Option Addr
 fc:Nat
 hm:List Nat
def Ms.row (m:Ms):List Value:=[.int .i64 m.tt,.int .i64 m.at',.int .i64 m.c.e,.int .i64 m.c.n,.string m.c.d,.int .i64 m.tag]
def flyL (l:List Ms):List Value:=l.flatMap Ms.row
def tgTail (m:Tm) (t:Tg):List Value:=[m.b.s1.v,m.b.s2.v,m.b.s3.v,m.b.s4.v,.int .i64 t.num,.int .i64 t.tag,.map (some m.W),.slice m.fa t.fly.length m.fc,.map (some m.N)]
def tgRow (m:Tm) (t:Tg):List Value:=.pointer (some ⟨m.K,0,none⟩) :: (t.g.arr.toList ++ tgTail m t)
def waitL:List Wt→List Nat→List (Int × Value)
 | w :: l,h :: r=>(w.tag,.agg #[.int .i64 w.who,.int .i64 w.num,.map (some h)]) :: waitL l r
 | _,_=>[]
def boolL (l:List Int):List (Int × Value):=l.map fun x=>(x,.bool true)
def IntsX (X:Nat→Prop) (w:World) (a:Option Addr) (l:List Int):Prop:=∀ i (h:i<l.length),∃ b o,a=some ⟨b,o,none⟩∧X b∧b<w.heap.size∧w.cell? ⟨b,o+i,none⟩=some (.int .i64 l[i])
structure SlX (X:Nat→Prop) (w:World) (s:Sl) (l:List Int):Prop where
 ints:IntsX X w s.a s.l
 len:s.l.length≤5
 cap:s.l.length≤s.c
 eq:s.l=l
def Tm.bx (m:Tm) (X:Nat→Prop) (T b:Nat):Prop:=X b∧b≠T∧∀ o,m.fa≠some ⟨b,o,none⟩
structure TgB (X:Nat→Prop) (w0 w:World) (T:Nat) (m:Tm) (t:Tg):Prop where
 blk:w.heap[T]?=some (.cells (tgRow m t).toArray 84 (0,0))
 ok:t.g.ok
 xt:X T
 xw:X m.W
 xn:X m.N
 wn:m.W≠m.N
 box:∀ k,SlX (m.bx X T) w (m.b.get k) (t.b.get k)
 wait:IMap w m.W (waitL t.wait m.hm)
 wl:t.wait.length=m.hm.length
 have':∀ i (h:i<m.hm.length) (h2:i<t.wait.length),X m.hm[i]∧m.hm[i]≠m.W∧m.hm[i]≠m.N∧IMap w m.hm[i] (boolL t.wait[i].hv)
 apart:m.hm.Pairwise (·≠·)
 fly:w.ownsRow w0.heap.size 87 6 (.slice m.fa t.fly.length m.fc) t.fly.length (flyL t.fly)
 xf:∀ b o,m.fa=some ⟨b,o,none⟩→X b
 done:IMap w m.N (boolL t.done)
def Tm.own (m:Tm) (T:Nat) (b:Nat):Prop:=b=T∨b=m.W∨b=m.N∨b∈m.hm∨∃ o,m.fa=some ⟨b,o,none⟩
def TgR (w0:World) (n D T:Nat) (t:Tg) (Y:Nat→Prop) (w:World):Prop :=
 ∃ X m,KI n w0 X D m.K t.k w∧TgB X w0 w T m t∧(∀ b,X b→w0.heap.size≤b)∧∀ b,Y b→X b∧¬ m.own T b
theorem IntsX.same {X:Nat→Prop} {w w':World} {a:Option Addr} {l:List Int} (h:IntsX X w a l) (sm:Same X w w') (lt:∀ b,X b→b<w'.heap.size):IntsX X w' a l:=by
 intro i hi
 obtain ⟨b,o,e,hx,hb,hc⟩:=h i hi
 exact ⟨b,o,e,hx,lt b hx,(World.cell?_of_block (w:=w) (a:=⟨b,o+i,none⟩) (sm b hx)).trans hc⟩
theorem IntsX.ints {X:Nat→Prop} {w:World} {a:Option Addr} {l:List Int} (h:IntsX X w a l):Ints w.heap.size w a l:=by
 intro i hi
 obtain ⟨b,o,e,_,hb,hc⟩:=h i hi
 exact ⟨b,o,e,hb,hc⟩
theorem IntsX.mono {X Y:Nat→Prop} {w:World} {a:Option Addr} {l:List Int} (h:IntsX X w a l) (hXY:∀ b,X b→Y b):IntsX Y w a l:=by
 intro i hi
 obtain ⟨b,o,e,hx,hb,hc⟩:=h i hi
 exact ⟨b,o,e,hXY b hx,hb,hc⟩
theorem HiI.intsX {B:Nat} {w:World} {a:Option Addr} {l:List Int} (h:HiI B w a l) {X:Nat→Prop} (hX:∀ b,B≤b→b<w.heap.size→X b):IntsX X w a l:=by
 intro i hi
 obtain ⟨b,o,e,h1,h2,h3⟩:=h i hi
 exact ⟨b,o,e,hX b h1 h2,h2,h3⟩
theorem ownsRow_same {w w':World} {B:Nat} {E:TypeId} {z:Nat} {v:Value} {k:Nat} {xs:List Value} (h:w.ownsRow B E z v k xs) (e:∀ b,v.ownBlock=some b→w'.heap[b]?=w.heap[b]?):w'.ownsRow B E z v k xs:=by
 obtain ⟨h1,h2⟩:=h
 refine ⟨h1,?_⟩
 rcases h2 with h2 | ⟨g,cap,cur,rfl,e2,e3,e4⟩
 ·exact .inl h2
 ·exact .inr ⟨g,cap,cur,rfl,e2,by rw [e g rfl]; exact e3,e4⟩
section
variable {X Y:Nat→Prop} {w0 w w':World} {T:Nat} {m:Tm} {t:Tg}
theorem TgB.mono (h:TgB X w0 w T m t) (hXY:∀ b,X b→Y b):TgB Y w0 w T m t :=
 ⟨h.blk,h.ok,hXY _ h.xt,hXY _ h.xw,hXY _ h.xn,h.wn,fun k=>⟨(h.box k).ints.mono (fun b e=>⟨hXY b e.1,e.2⟩),(h.box k).len,(h.box k).cap,(h.box k).eq⟩,h.wait,h.wl,
  fun i h1 h2=>⟨hXY _ (h.have' i h1 h2).1,(h.have' i h1 h2).2⟩,h.apart,h.fly,fun b o e=>hXY _ (h.xf b o e),h.done⟩
theorem TgB.same (h:TgB X w0 w T m t) (sm:Same X w w') (lt:∀ b,X b→b<w'.heap.size):TgB X w0 w' T m t :=
 ⟨(sm T h.xt).trans h.blk,h.ok,h.xt,h.xw,h.xn,h.wn,fun k=>⟨(h.box k).ints.same (fun b e=>sm b e.1) (fun b e=>lt b e.1),(h.box k).len,(h.box k).cap,(h.box k).eq⟩,h.wait.move (sm _ h.xw),h.wl,
  fun i h1 h2=>⟨(h.have' i h1 h2).1,(h.have' i h1 h2).2.1,(h.have' i h1 h2).2.2.1,(h.have' i h1 h2).2.2.2.move (sm _ (h.have' i h1 h2).1)⟩,h.apart,
  ownsRow_same h.fly (fun b e=>by
   cases hfa:m.fa with
   | none=>rw [hfa] at e; cases e
   | some p =>
    obtain ⟨pb,po,ps⟩:=p
    rw [hfa] at e
    have:pb=b:=by simpa [Value.ownBlock] using e
    subst this
    obtain ⟨-,h2 | ⟨g,cap,cur,e1,-⟩⟩:=h.fly
    ·rw [hfa] at h2; cases h2.1
    ·rw [hfa] at e1
     simp only [Value.slice.injEq,Option.some.injEq,Addr.mk.injEq] at e1
     obtain ⟨⟨rfl,rfl,rfl⟩,-⟩:=e1
     exact sm _ (h.xf _ _ hfa)),h.xf,h.done.move (sm _ h.xn)⟩
theorem KI.same_of {n D K:Nat} {k:Kp} (h:KI n w0 X D K k w) (b:Below w.heap.size w w'):Same X w w':=fun c hc=>b.block c (h.lt c hc)
theorem TgR.over {n D:Nat} {Y:Nat→Prop} (h:TgR w0 n D T t Y w) (b:Below w.heap.size w w'):TgR w0 n D T t Y w':=by
 obtain ⟨X,m,ki,tb,lo,hy⟩:=h
 exact ⟨X,m,ki.over b,tb.same (ki.same_of b) (ki.over b).lt,lo,hy⟩
theorem TgR.below {n D:Nat} {Y:Nat→Prop} (h:TgR w0 n D T t Y w):Below w0.heap.size w0 w:=by
 obtain ⟨X,m,ki,-⟩:=h
 exact ki.below
theorem TgR.less {n D:Nat} {Y Y':Nat→Prop} (h:TgR w0 n D T t Y w) (hY:∀ b,Y' b→Y b):TgR w0 n D T t Y' w:=by
 obtain ⟨X,m,ki,tb,lo,hy⟩:=h
 exact ⟨X,m,ki,tb,lo,fun b e=>hy b (hY b e)⟩
theorem KI.all {n D K:Nat} {k:Kp} (h:KI n w0 X D K k w) (b:Below w.heap.size w w'):KI n w0 (fun c=>X c∨(w.heap.size≤c∧c<w'.heap.size)) D K k w':=by
 have h':=h.over b
 obtain ⟨S,a,cap,kr,lo,kb,bl,hx,ax⟩:=h
 have hK:=(Array.getElem?_eq_some_iff.1 kr.blk).1
 have hz:=b.size
 refine ⟨S,a,cap,kr.below b,lo,kb,bl.trans (b.mono bl.size),fun c hc=>?_,fun c q e hn hX=>?_⟩
 ·rcases hc with hc | hc
  ·exact ⟨by have:=(hx c hc).1; omega,(hx c hc).2⟩
  ·exact ⟨hc.2,fun e=>by have:=kr.lt _ e; omega,by omega⟩
 ·subst e
  rcases hX with hX | hX
  ·exact ax c q rfl hn hX
  ·have:=kr.str.blt hn; omega
theorem fly_block (h:TgB X w0 w T m t) {b:Nat} (e:(Value.slice m.fa t.fly.length m.fc).ownBlock=some b):X b∧∃ cur,w.heap[b]?=some (.cells cur 87 (0,0)):=by
 obtain ⟨-,h2 | ⟨g,cap,cur,e1,_,e3,_⟩⟩:=h.fly
 ·rw [h2.1] at e; cases e
 ·rw [e1] at e
  have:g=b:=by simpa [Value.ownBlock] using e
  subst this
  have hfa:m.fa=some ⟨g,0,none⟩:=by
   simp only [Value.slice.injEq] at e1
   exact e1.1
  exact ⟨h.xf _ _ hfa,cur,e3⟩
theorem TgB.turn (h:TgB X w0 w T m t) (kp:Keeps (·=T) w w') {t':Tg} (hb:w'.heap[T]?=some (.cells (tgRow m t').toArray 84 (0,0))) (hok:t'.g.ok) (e1:t'.b=t.b) (e2:t'.wait=t.wait) (e3:t'.fly=t.fly) (e4:t'.done=t.done):TgB X w0 w' T m t':=by
 have nT:∀ {b es cl},w.heap[b]?=some (.map es cl)→b≠T:=fun {b es cl} hm e=>by subst e; rw [h.blk] at hm; cases hm
 have mv:∀ {b:Nat} {l:List (Int × Value)},IMap w b l→IMap w' b l:=fun {b l} hm=>by
  obtain ⟨es,cl,h1,h2⟩:=hm
  exact ⟨es,cl,(kp.block b (nT h1) (Array.getElem?_eq_some_iff.1 h1).1).trans h1,h2⟩
 refine ⟨hb,hok,h.xt,h.xw,h.xn,h.wn,fun k=>?_,by rw [e2]; exact mv h.wait,by rw [e2]; exact h.wl,fun i h1 h2=>?_,h.apart,?_,h.xf,by rw [e4]; exact mv h.done⟩
 ·rw [e1]
  refine ⟨fun i hi=>?_,(h.box k).len,(h.box k).cap,(h.box k).eq⟩
  obtain ⟨b,o,e,hx,hlt,hc⟩:=(h.box k).ints i hi
  exact ⟨b,o,e,hx,Nat.lt_of_lt_of_le hlt kp.size,(kp.cell hx.2.1 hlt).trans hc⟩
 ·have h2':i<t.wait.length:=by rw [← e2]; exact h2
  obtain ⟨g1,g2,g3,g4⟩:=h.have' i h1 h2'
  refine ⟨g1,g2,g3,?_⟩
  have:t'.wait[i]=t.wait[i]:=by simp only [e2]
  rw [this]
  exact mv g4
 ·rw [e3]
  refine ownsRow_same h.fly (fun b e=>?_)
  obtain ⟨-,cur,hc⟩:=fly_block h e
  refine kp.block b (fun q=>?_) (Array.getElem?_eq_some_iff.1 hc).1
  subst q
  rw [h.blk] at hc
  have e7:(84:Nat)=87:=congrArg (fun o:Option Obj=>match o with | some (.cells _ ty _)=>ty | _=>0) hc
  exact absurd e7 (by decide)
theorem TgB.setK (h:TgB X w0 w T m t) (k:Kp):TgB X w0 w T m { t with k:=k } :=
 ⟨h.blk,h.ok,h.xt,h.xw,h.xn,h.wn,h.box,h.wait,h.wl,h.have',h.apart,h.fly,h.xf,h.done⟩
theorem TgB.own_lt (h:TgB X w0 w T m t):∀ b,m.own T b→b<w.heap.size:=by
 intro b e
 rcases e with rfl | rfl | rfl | e | ⟨o,e⟩
 ·exact (Array.getElem?_eq_some_iff.1 h.blk).1
 ·exact h.wait.lt
 ·exact h.done.lt
 ·obtain ⟨i,hi,rfl⟩:=List.mem_iff_getElem.1 e
  exact (h.have' i hi (by rw [h.wl]; exact hi)).2.2.2.lt
 ·obtain ⟨-,h2 | ⟨g,cap,cur,e1,_,e3,_⟩⟩:=h.fly
  ·rw [e] at h2; cases h2.1
  ·rw [e] at e1
   simp only [Value.slice.injEq,Option.some.injEq,Addr.mk.injEq] at e1
   obtain ⟨⟨rfl,_,_⟩,_⟩:=e1
   exact (Array.getElem?_eq_some_iff.1 e3).1
theorem TgR.more {n D:Nat} {Y:Nat→Prop} (h:TgR w0 n D T t Y w) (b:Below w.heap.size w w'):TgR w0 n D T t (fun c=>Y c∨(w.heap.size≤c∧c<w'.heap.size)) w':=by
 obtain ⟨X,m,ki,tb,lo,hy⟩:=h
 refine ⟨_,m,ki.all b,(tb.same (ki.same_of b) (ki.over b).lt).mono (fun c e=>.inl e),fun c e=>?_,fun c e=>?_⟩
 ·rcases e with e | e
  ·exact lo c e
  ·exact Nat.le_trans ki.below.size e.1
 ·rcases e with e | e
  ·exact ⟨.inl (hy c e).1,(hy c e).2⟩
  ·exact ⟨.inr e,fun ho=>by have:=tb.own_lt c ho; omega⟩
end
section
variable {w:World} {T:Nat} {m:Tm} {t:Tg}
theorem tgRow_g (hg:t.g.ok) (i:Nat) (hi:i<78):(tgRow m t)[1+i]?=t.g.arr[i]?:=by
 have hz:=Gp.size hg
 unfold tgRow
 rw [show 1+i=i+1 by omega,List.getElem?_cons_succ,List.getElem?_append_left (by simp; omega),Array.getElem?_toList]
theorem tgRow_tail (hg:t.g.ok) (i:Nat):(tgRow m t)[79+i]?=(tgTail m t)[i]?:=by
 have hz:=Gp.size hg
 unfold tgRow
 rw [show 79+i=(78+i)+1 by omega,List.getElem?_cons_succ,List.getElem?_append_right (by simp; omega)]
 congr 1
 simp; omega
theorem tg_cells (h:w.heap[T]?=some (.cells (tgRow m t).toArray 84 (0,0))) (hg:t.g.ok) :
  (w.cell? ⟨T,0,none⟩=some (.pointer (some ⟨m.K,0,none⟩))∧w.cell? ⟨T,79,none⟩=some m.b.s1.v∧w.cell? ⟨T,80,none⟩=some m.b.s2.v∧w.cell? ⟨T,81,none⟩=some m.b.s3.v∧w.cell? ⟨T,82,none⟩=some m.b.s4.v ∧
   w.cell? ⟨T,83,none⟩=some (.int .i64 t.num)∧w.cell? ⟨T,84,none⟩=some (.int .i64 t.tag)∧w.cell? ⟨T,85,none⟩=some (.map (some m.W))∧w.cell? ⟨T,86,none⟩=some (.slice m.fa t.fly.length m.fc)∧w.cell? ⟨T,87,none⟩=some (.map (some m.N))) ∧
  (w.frozen? ⟨T,0,none⟩=false∧w.frozen? ⟨T,79,none⟩=false∧w.frozen? ⟨T,80,none⟩=false∧w.frozen? ⟨T,81,none⟩=false∧w.frozen? ⟨T,82,none⟩=false∧w.frozen? ⟨T,83,none⟩=false∧w.frozen? ⟨T,84,none⟩=false∧w.frozen? ⟨T,85,none⟩=false∧w.frozen? ⟨T,86,none⟩=false∧w.frozen? ⟨T,87,none⟩=false):=by
 have c:∀ o v,(tgRow m t)[o]?=some v→w.cell? ⟨T,o,none⟩=some v:=fun o v e=>by simp [World.cell?,h,e]
 have f:∀ o,w.frozen? ⟨T,o,none⟩=false:=fun o=>by simp [World.frozen?,h]
 have q:∀ i v,(tgTail m t)[i]?=some v→(tgRow m t)[79+i]?=some v:=fun i v e=>(tgRow_tail hg i).trans e
 exact ⟨⟨c 0 _ rfl,c 79 _ (q 0 _ rfl),c 80 _ (q 1 _ rfl),c 81 _ (q 2 _ rfl),c 82 _ (q 3 _ rfl),c 83 _ (q 4 _ rfl),c 84 _ (q 5 _ rfl),c 85 _ (q 6 _ rfl),c 86 _ (q 7 _ rfl),c 87 _ (q 8 _ rfl)⟩,f 0,f 79,f 80,f 81,f 82,f 83,f 84,f 85,f 86,f 87⟩
theorem tg_range (h:w.heap[T]?=some (.cells (tgRow m t).toArray 84 (0,0))) (hg:t.g.ok):w.rangeAt T 1 t.g.arr.toList∧w.there T 1 78:=by
 have hz:=Gp.size hg
 have h1:w.rangeAt T 1 t.g.arr.toList:=fun j v hv=>by
  have hj:j<78:=by
   have:=(List.getElem?_eq_some_iff.1 hv).1
   simp at this; omega
  rw [cell_of_row w T (1+j) _ _ (0,0) h,List.getElem?_toArray,tgRow_g hg j hj]
  simpa using hv
 refine ⟨h1,fun j hj=>⟨h1.isSome j (by simp; omega),?_⟩⟩
 simp [World.frozen?,h]
theorem tg_up (h:w.heap[T]?=some (.cells (tgRow m t).toArray 84 (0,0))) (hg:t.g.ok) {i:Nat} (hi:i<t.g.u.length):w.cell? ⟨T,76+i,none⟩=some (.bool t.g.u[i])∧w.frozen? ⟨T,76+i,none⟩=false:=by
 have h3:=hg.u3
 have:=Gp.atU hg hi
 have e:=tgRow_g (m:=m) hg (75+i) (by omega)
 rw [this,show 1+(75+i)=76+i by omega] at e
 simp [World.cell?,World.frozen?,h,e]
theorem tg_setG (h:w.heap[T]?=some (.cells (tgRow m t).toArray 84 (0,0))) (hg:t.g.ok) {g:Gp} (hg':g.ok) :
  (w.setCells T 1 g.arr.toList).heap[T]?=some (.cells (tgRow m { t with g:=g }).toArray 84 (0,0)):=by
 have hz:=Gp.size hg
 have hz':=Gp.size hg'
 rw [block_setCells _ _ _ _ h]
 have e:putL (tgRow m t) 1 g.arr.toList=tgRow m { t with g:=g }:=by
  unfold tgRow
  have e1:=putL_right g.arr.toList [Value.pointer (some ⟨m.K,0,none⟩)] (t.g.arr.toList ++ tgTail m t) 0
  have e2:=putL_left g.arr.toList t.g.arr.toList (tgTail m t) 0 (by simp; omega)
  rw [putL_all (vs:=g.arr.toList) (a:=t.g.arr.toList) (by simp; omega)] at e2
  rw [e2] at e1
  exact e1
 rw [show (tgRow m t).toArray.toList=tgRow m t from rfl,e]
theorem tg_setU (h:w.heap[T]?=some (.cells (tgRow m t).toArray 84 (0,0))) (hg:t.g.ok) {i:Nat} (hi:i<3) (b:Bool) :
  (w.setCell ⟨T,76+i,none⟩ (.bool b)).heap[T]?=some (.cells (tgRow m { t with g:=t.g.setU i b }).toArray 84 (0,0)):=by
 have hz:=Gp.size hg
 rw [block_setCell h]
 congr 2
 have e:=congrArg Array.toList (Gp.putU hg (i:=i) b)
 rw [Array.toList_setIfInBounds] at e
 unfold tgRow
 apply Array.toList_inj.1
 rw [Array.toList_setIfInBounds]
 show (Value.pointer (some ⟨m.K,0,none⟩) :: (t.g.arr.toList ++ tgTail m t)).set (76+i) (.bool b)=_
 rw [show 76+i=(75+i)+1 by omega,List.set_cons_succ,set_app_l (by simp; omega),e]
 rfl
theorem tg_set (h:w.heap[T]?=some (.cells (tgRow m t).toArray 84 (0,0))) (hg:t.g.ok) (i:Nat) (v:Value) {m':Tm} {t':Tg} (hk:m'.K=m.K) (hgg:t'.g=t.g) (e:(tgTail m t).set i v=tgTail m' t') :
  (w.setCell ⟨T,79+i,none⟩ v).heap[T]?=some (.cells (tgRow m' t').toArray 84 (0,0)):=by
 have hz:=Gp.size hg
 rw [block_setCell h]
 congr 2
 unfold tgRow
 apply Array.toList_inj.1
 rw [Array.toList_setIfInBounds]
 show (Value.pointer (some ⟨m.K,0,none⟩) :: (t.g.arr.toList ++ tgTail m t)).set (79+i) v=_
 rw [show 79+i=(78+i)+1 by omega,List.set_cons_succ,set_app_r (by simp; omega),show 78+i - t.g.arr.toList.length=i by simp; omega,e,hk,hgg]
end
end Go.Proofs.YtbkmdmmgalmmaaaGreatDoor

namespace Go.Proofs.YtbkmdmmgalmmaaaGreatDoor
open Go.RowKit Go.Sort
section
variable (w0 w:World) (n D T:Nat) (t:Tg) (Y:Nat→Prop)
set_option maxRecDepth 100000 in
set_option maxHeartbeats 1000000 in
theorem tstate_any (h:TgR w0 n D T t Y w) (hl:t.k.s.regs.length≤1000) :
  Calls Tryz.prog 8 #[.pointer (some ⟨T,0,none⟩)] w fun e w'=>∃ a2 cap2,e=.returned (stV t.k.s a2 cap2)∧StR w' t.k.s a2∧Below w.heap.size w w'∧∀ b o,a2=some ⟨b,o,none⟩→w.heap.size≤b:=by
 obtain ⟨X,m,ki,tb,lo,hy⟩:=h
 have c0:=(tg_cells tb.blk tb.ok).1.1
 have hT:=(Array.getElem?_eq_some_iff.1 tb.blk).1
 have ST:=Lib.hid (stateI2 n w0 _ X D m.K t.k (ki.over (bal w (.cells #[.int .i64 0,.slice none 0 0,.int .i64 0,.int .i64 0,.bool false] 35))) hl)
 clear ki tb lo hy
 go_enter Tryz.func8,Tryz.ntmps8
 go_wp2_with fail
 refine ST.out.mono ?_
 rintro e w2 ⟨a2,c2,rfl,hs,b2,fr⟩
 have B2:=Lib.hid ((bal w _).trans (b2.mono (by simp:w.heap.size≤(w.alloc (.cells #[.int .i64 0,.slice none 0 0,.int .i64 0,.int .i64 0,.bool false] 35)).heap.size)))
 have R2:=Lib.hid ((b2.block w.heap.size (by simp)).trans (heap_alloc_new w _))
 have HS:=Lib.hid hs
 have FR:=Lib.hid (show ∀ b o,a2=some ⟨b,o,none⟩→w.heap.size+1≤b from fun b o e=>by have:=fr b o e; simpa using this)
 clear hs b2 fr ST
 obtain ⟨⟨r0,r1,r2,r3,r4⟩,g0,g1,g2,g3,g4⟩:=cells5 R2.out
 unfold stV
 go_wp2
 refine bodyPost_ret (v:=stV t.k.s a2 c2) (results_r1 Tryz.results8 _ _ w.heap.size 35 #[.int .i64 t.k.s.gen,.slice a2 t.k.s.regs.length c2,.int .i64 t.k.s.typ,.int .i64 t.k.s.holder,.bool t.k.s.stays] _ rfl (five_at R2.out _ _ _ _ _) state_row.1 rfl state_row.2) rfl ?_
 exact ⟨a2,c2,rfl,HS.out.five (T:=w.heap.size) (fun b o e=>by have:=FR.out b o e; omega) _ _ _ _ _,five_below B2.out (Nat.le_refl _) _ _ _ _ _,fun b o e=>by have:=FR.out b o e; omega⟩
set_option maxRecDepth 100000 in
theorem tepoch_any (h:TgR w0 n D T t Y w) :
  Calls Tryz.prog 14 #[.pointer (some ⟨T,0,none⟩)] w fun e w'=>e=.returned (.int .i64 t.k.ep)∧w'=w:=by
 obtain ⟨X,m,ki,tb,lo,hy⟩:=h
 have c0:=(tg_cells tb.blk tb.ok).1.1
 have EP:=Lib.hid (epochI n w0 w X D m.K t.k ki)
 clear ki tb lo hy
 go_enter Tryz.func14,Tryz.ntmps14
 go_wp2_with fail
 refine EP.out.mono ?_
 rintro e w1 ⟨rfl,rfl⟩
 go_wp2
 go_ret
 exact ⟨rfl,rfl⟩
set_option maxRecDepth 100000 in
set_option maxHeartbeats 1000000 in
theorem tgroup_any (h:TgR w0 n D T t Y w) :
  Calls Tryz.prog 9 #[.pointer (some ⟨T,0,none⟩)] w fun e w'=>e=.returned (.agg t.g.arr)∧Below w.heap.size w w':=by
 obtain ⟨X,m,ki,tb,lo,hy⟩:=h
 obtain ⟨w1,hw1⟩:∃ w1,w1=w.alloc (.cells Tryz.zeroCells45 45):=⟨_,rfl⟩
 have B1:=Lib.hid (show Below w.heap.size w w1 from hw1▸bal w _)
 have HZ:=Lib.hid (show w1.heap[w.heap.size]?=some (.cells Gp.zero.arr 45 (0,0)) from hw1▸gp_zero_arr▸heap_alloc_new _ _)
 have RG:=Lib.hid (tg_range ((B1.out.block T (Array.getElem?_eq_some_iff.1 tb.blk).1).trans tb.blk) tb.ok).1
 have ZG:=Lib.hid (Gp.size tb.ok)
 clear ki tb lo hy
 go_enter Tryz.func9,Tryz.ntmps9
 go_upto_region 1 with fail
 rw [← hw1]
 clear hw1
 go_wp2_with (first | ((with_reducible refine ld_mid1 rfl 45 _ rfl ?_); refine ⟨T,1,t.g.arr,_,rfl,RG.out,gp_row.1,rfl,by rw [gp_row.2,ZG.out],?_⟩) | ((with_reducible refine st_row1 rfl 45 _ _ rfl ?_); refine ⟨w.heap.size,_,t.g.arr,Gp.zero.arr,rfl,rfl,HZ.out,by rw [gp_row.2,ZG.out],by rw [ZG.out]; rfl,Gp.one _,?_⟩))
 refine bodyPost_ret (v:=.agg t.g.arr) (results_row1 Tryz.results9 _ _ w.heap.size 45 t.g.arr (0,0) _ rfl (setRow_heap _ _ _ _ _ _ HZ.out) gp_row.1 rfl (by rw [gp_row.2,ZG.out])) rfl ?_
 exact ⟨rfl,below_setRow' B1.out (Nat.le_refl _) _⟩
end
end Go.Proofs.YtbkmdmmgalmmaaaGreatDoor

namespace Go.Proofs.YtbkmdmmgalmmaaaGreatDoor
open Go.RowKit Go.Sort
theorem TgB.setG {X:Nat→Prop} {w0 w:World} {T:Nat} {m:Tm} {t:Tg} (h:TgB X w0 w T m t) {g:Gp} (hg:g.ok):TgB X w0 (w.setCells T 1 g.arr.toList) T m { t with g:=g }∧Keeps (·=T) w (w.setCells T 1 g.arr.toList) :=
 have kp:Keeps (·=T) w (w.setCells T 1 g.arr.toList):=Keeps.setCells (S:=(·=T)) rfl _ _ _ _ (Keeps.refl _ _)
 ⟨h.turn kp (tg_setG h.blk h.ok hg) hg rfl rfl rfl rfl,kp⟩
section
variable (w0 w:World) (n D T:Nat) (t:Tg) (Y:Nat→Prop)
set_option maxRecDepth 100000 in
set_option maxHeartbeats 8000000 in
theorem ready_any (h:TgR w0 n D T t Y w) (he:0≤t.k.ep∧t.k.ep≤1000000) (hok:(t.g.fence t.k.ep).ok) :
  Calls Tryz.prog 31 #[.pointer (some ⟨T,0,none⟩)] w fun e w'=>e=.returned (errV (if t.isReady then 0 else 7))∧TgR w0 n D T t.ready Y w'∧Keeps (·=T) w w':=by
 obtain ⟨X,m,ki,tb,lo,hy⟩:=h
 have LTT:=(Array.getElem?_eq_some_iff.1 tb.blk).1
 have ZG:=Lib.hid (Gp.size tb.ok)
 have TB:=Lib.hid tb
 have KI0:=Lib.hid ki
 have LO:=Lib.hid lo
 have HY:=Lib.hid hy
 have RG:=Lib.hid (fun w' (h:RowKit.Below w.heap.size w w')=>(show w'.rangeAt T 1 t.g.arr.toList from fun j v hv=>(h.cell (p:=⟨T,1+j,none⟩) LTT).trans ((tg_range tb.blk tb.ok).1 j v hv)))
 have SC:=Lib.hid (fun w' (h:RowKit.Below w.heap.size w w')=>(h.cell (p:=⟨T,0,none⟩) LTT).trans (tg_cells tb.blk tb.ok).1.1)
 have EPO:=Lib.hid (fun w' (h:RowKit.Below w.heap.size w w')=>epochI n w0 w' X D m.K t.k (ki.over h))
 have FEN:=Lib.hid (fun w'=>gfence_any t.g t.k.ep w' tb.ok (by omega))
 have RDY:=Lib.hid (show t.isReady=decide (2≤((t.g.fence t.k.ep).mem t.k.ep).length) from rfl)
 have TRD:=Lib.hid (show t.ready={ t with g:=t.g.fence t.k.ep } from rfl)
 clear ki tb lo hy
 obtain ⟨FG,hFG⟩:∃ FG,t.g.fence t.k.ep=FG:=⟨_,rfl⟩
 rw [hFG] at FEN RDY TRD hok
 obtain ⟨BB,hBB⟩:∃ BB,decide (2≤(FG.mem t.k.ep).length)=BB:=⟨_,rfl⟩
 rw [hBB] at FEN RDY
 rw [RDY.out,TRD.out]
 have OKF:=Lib.hid hok
 have ZF:=Lib.hid (Gp.size hok)
 clear hFG hBB RDY TRD hok he
 go_enter Tryz.func31,Tryz.ntmps31
 go_upto_region 1 with fail
 go_cut [3,4] (fun v3 v4 wx=>∃ V,v3=.pointer (some ⟨V,0,none⟩)∧v4=.bool BB∧w.heap.size≤V∧wx.heap[V]?=some (.cells FG.arr 45 (0,0))∧RowKit.Below w.heap.size w wx)
 case first =>
  obtain ⟨S,hS⟩:∃ S:World→Prop,S=fun w'=>RowKit.Below w.heap.size w w':=⟨_,rfl⟩
  have S3:∀ w',RowKit.Below w.heap.size w w'→S w':=fun w' h=>by rw [hS]; exact h
  have S4:∀ w',S w'→RowKit.Below w.heap.size w w':=fun w' h=>by rw [hS] at h; exact h
  clear hS
  refine wp_region_held_drew (S:=S) (by kernel_rfl) (S3 _ (Below.refl _ _).drew) (fun hHeld=>?_)
  obtain ⟨wd,hwd⟩:∃ wd,wd=w.drew:=⟨_,rfl⟩
  rw [← hwd] at hHeld ⊢
  clear hwd
  refine wpAnyH_take (i:=0) (oi:=_) (v:=.pointer (some ⟨T,0,none⟩)) rfl (by kernel_rfl) (by kernel_rfl) (by kernel_rfl) (fun _ _ _ h=>h) (Or.inl ⟨by rfl,fun w' hSw=>by go_simp⟩) hHeld ?_
  simp only [Act.put,List.getElem_toArray,List.getElem_cons_zero,List.setIfInBounds_toArray,List.set_cons_zero,List.set_cons_succ]
  refine wpAnyH_take (i:=1) (oi:=_) (v:=.pointer (some ⟨T,0,none⟩)) rfl (by kernel_rfl) (by kernel_rfl) (by kernel_rfl) (fun _ _ _ h=>h) (Or.inl ⟨by rfl,fun w' hSw=>by go_simp⟩) hHeld ?_
  simp only [Act.put,List.getElem_toArray,List.getElem_cons_zero,List.getElem_cons_succ,List.setIfInBounds_toArray,List.set_cons_zero,List.set_cons_succ]
  refine wpAnyH_take (i:=2) (oi:=_) (v:=.pointer (some ⟨T,1,none⟩)) rfl (by kernel_rfl) (by kernel_rfl) (by kernel_rfl) (fun _ _ _ h=>h) (Or.inl ⟨by rfl,fun w' hSw=>by go_simp⟩) hHeld ?_
  simp only [Act.put,List.getElem_toArray,List.getElem_cons_zero,List.getElem_cons_succ,List.setIfInBounds_toArray,List.set_cons_zero,List.set_cons_succ]
  refine wpAnyH_take (i:=3) (oi:=_) (v:=.agg t.g.arr) rfl (by kernel_rfl) (by kernel_rfl) (by kernel_rfl) (fun _ _ _ h=>h) (yieldsIf_load_midA (by rfl) 45 _ rfl T 1 rfl t.g.arr _ (fun w' h=>RG.out w' (S4 w' h)) gp_row.1 rfl (by rw [gp_row.2,ZG.out])) hHeld ?_
  simp only [Act.put,List.getElem_toArray,List.getElem_cons_zero,List.getElem_cons_succ,List.setIfInBounds_toArray,List.set_cons_zero,List.set_cons_succ]
  refine wpAnyH_take (i:=4) (oi:=_) (v:=.pointer (some ⟨T,0,none⟩)) rfl (by kernel_rfl) (by kernel_rfl) (by kernel_rfl) (fun _ _ _ h=>h) (Or.inl ⟨by rfl,fun w' hSw=>by go_simp⟩) hHeld ?_
  simp only [Act.put,List.getElem_toArray,List.getElem_cons_zero,List.getElem_cons_succ,List.setIfInBounds_toArray,List.set_cons_zero,List.set_cons_succ]
  refine wpAnyH_take (i:=5) (oi:=_) (v:=.pointer (some ⟨T,0,none⟩)) rfl (by kernel_rfl) (by kernel_rfl) (by kernel_rfl) (fun _ _ _ h=>h) (Or.inl ⟨by rfl,fun w' hSw=>by go_simp⟩) hHeld ?_
  simp only [Act.put,List.getElem_toArray,List.getElem_cons_zero,List.getElem_cons_succ,List.setIfInBounds_toArray,List.set_cons_zero,List.set_cons_succ]
  refine wpAnyH_take (i:=6) (oi:=_) (v:=.pointer (some ⟨T,0,none⟩)) rfl (by kernel_rfl) (by kernel_rfl) (by kernel_rfl) (fun _ _ _ h=>h) (Or.inl ⟨by rfl,fun w' hSw=>by go_simp⟩) hHeld ?_
  simp only [Act.put,List.getElem_toArray,List.getElem_cons_zero,List.getElem_cons_succ,List.setIfInBounds_toArray,List.set_cons_zero,List.set_cons_succ]
  refine wpAnyH_take (i:=7) (oi:=_) (v:=.pointer (some ⟨m.K,0,none⟩)) rfl (by kernel_rfl) (by kernel_rfl) (by kernel_rfl) (fun _ _ _ h=>h) (Or.inl ⟨by rfl,fun w' hSw=>by have hc:=SC.out w' (S4 w' hSw); go_simp⟩) hHeld ?_
  simp only [Act.put,List.getElem_toArray,List.getElem_cons_zero,List.getElem_cons_succ,List.setIfInBounds_toArray,List.set_cons_zero,List.set_cons_succ]
  refine wpAnyH_ready (rs:=[8,13]) (by kernel_rfl) (by simp) ?_
  refine AllReadyH.cons (o:=_) rfl (fun Kx hK=>?_) (AllReadyH.cons (o:=_) rfl (fun Kx hK=>?_) AllReadyH.nil)
  ·go_simp
   refine (EPO.out _ (S4 _ hHeld)).mono ?_
   rintro e w1_ ⟨rfl,hq⟩
   replace hq:=hq.symm
   subst hq
   have HH1:=hHeld
   refine hK.out _ _ HH1 (fun hHeld1=>?_)
   clear hK Kx HH1
   refine wpAnyH_ready (rs:=[9,13]) (by kernel_rfl) (by simp) ?_
   refine AllReadyH.cons (o:=_) rfl (fun Kx hK=>?_) (AllReadyH.cons (o:=_) rfl (fun Kx hK=>?_) AllReadyH.nil)
   ·go_simp
    refine (FEN.out _).mono ?_
    rintro e w2_ ⟨rfl,b2⟩
    have HH2:=S3 _ ((S4 _ hHeld1).trans (b2.mono (S4 _ hHeld1).size))
    clear b2
    refine hK.out _ _ HH2 (fun hHeld2=>?_)
    clear hK Kx HH2
    refine wpAnyH_take (i:=10) (oi:=_) (v:=.tuple #[.agg FG.arr,.bool BB]) rfl (by kernel_rfl) (by kernel_rfl) (by kernel_rfl) (fun _ _ _ h=>h) (Or.inl ⟨by rfl,fun w' hSw=>by go_simp⟩) hHeld2 ?_
    simp only [Act.put,List.getElem_toArray,List.getElem_cons_zero,List.getElem_cons_succ,List.setIfInBounds_toArray,List.set_cons_zero,List.set_cons_succ]
    refine wpAnyH_take (i:=11) (oi:=_) (v:=.agg FG.arr) rfl (by kernel_rfl) (by kernel_rfl) (by kernel_rfl) (fun _ _ _ h=>h) (Or.inl ⟨by rfl,fun w' hSw=>by go_simp⟩) hHeld2 ?_
    simp only [Act.put,List.getElem_toArray,List.getElem_cons_zero,List.getElem_cons_succ,List.setIfInBounds_toArray,List.set_cons_zero,List.set_cons_succ]
    refine wpAnyH_take (i:=12) (oi:=_) (v:=.bool BB) rfl (by kernel_rfl) (by kernel_rfl) (by kernel_rfl) (fun _ _ _ h=>h) (Or.inl ⟨by rfl,fun w' hSw=>by go_simp⟩) hHeld2 ?_
    simp only [Act.put,List.getElem_toArray,List.getElem_cons_zero,List.getElem_cons_succ,List.setIfInBounds_toArray,List.set_cons_zero,List.set_cons_succ]
    refine wpAnyH_ready (rs:=[13]) (by kernel_rfl) (by simp) ?_
    refine AllReadyH.cons (o:=_) rfl (fun Kx hK=>?_) AllReadyH.nil
    go_simp
    obtain ⟨w3_,hw3⟩:∃ x,x=w2_.alloc (.cells Tryz.zeroCells45 45):=⟨_,rfl⟩
    have HV3:=Lib.hid (show w3_.heap[w2_.heap.size]?=some (.cells Gp.zero.arr 45 (0,0)) from hw3▸gp_zero_arr▸heap_alloc_new _ _)
    have HH3:=S3 _ (show RowKit.Below w.heap.size w w3_ from hw3▸(S4 _ hHeld2).alloc (S4 _ hHeld2).size _)
    have HL3:w.heap.size≤w2_.heap.size:=(S4 _ hHeld2).size
    rw [← hw3]
    obtain ⟨V3,hV3⟩:∃ V,w2_.heap.size=V:=⟨_,rfl⟩
    rw [hV3] at HV3 HL3 ⊢
    clear hw3 hV3
    refine hK.out _ _ HH3 (fun hHeld3=>?_)
    clear hK Kx HH3
    refine wpAnyH_ready (rs:=[14]) (by kernel_rfl) (by simp) ?_
    refine AllReadyH.cons (o:=_) rfl (fun Kx hK=>?_) AllReadyH.nil
    refine step_store_row rfl 45 _ _ rfl V3 FG.arr rfl rfl 45 Gp.zero.arr HV3.out (by rw [gp_row.2,ZF.out]) (by rw [ZF.out]; rfl) (Gp.one _) ?_
    have HS4:=Lib.hid (show (World.setRow w3_ V3 FG.arr).heap[V3]?=some (.cells FG.arr 45 (0,0)) from setRow_heap _ _ _ _ _ _ HV3.out)
    have HH4:=S3 _ (show RowKit.Below w.heap.size w (World.setRow w3_ V3 FG.arr) from below_setRow' (S4 _ hHeld3) HL3 _)
    refine hK.out _ _ HH4 (fun hHeld4=>?_)
    clear hK Kx HH4
    simp only [Act.put,List.getElem_toArray,List.getElem_cons_zero,List.getElem_cons_succ]
    refine wpAnyH_ready (rs:=[15]) (by kernel_rfl) (by simp) ?_
    refine AllReadyH.cons (o:=_) rfl (fun Kx hK=>?_) AllReadyH.nil
    go_simp
    have HH5:=hHeld4
    refine hK.out _ _ HH5 (fun hHeld5=>?_)
    clear hK Kx HH5
    refine wpAnyH_done (by kernel_rfl) ?_ _
    go_wp2_with fail
    go_meet
    exact ⟨V3,rfl,rfl,HL3,HS4.out,S4 _ hHeld5⟩
   ·go_simp
    obtain ⟨w6_,hw6⟩:∃ x,x=wd.alloc (.cells Tryz.zeroCells45 45):=⟨_,rfl⟩
    have HV6:=Lib.hid (show w6_.heap[wd.heap.size]?=some (.cells Gp.zero.arr 45 (0,0)) from hw6▸gp_zero_arr▸heap_alloc_new _ _)
    have HH6:=S3 _ (show RowKit.Below w.heap.size w w6_ from hw6▸(S4 _ hHeld1).alloc (S4 _ hHeld1).size _)
    have HL6:w.heap.size≤wd.heap.size:=(S4 _ hHeld1).size
    rw [← hw6]
    obtain ⟨V6,hV6⟩:∃ V,wd.heap.size=V:=⟨_,rfl⟩
    rw [hV6] at HV6 HL6 ⊢
    clear hw6 hV6
    refine hK.out _ _ HH6 (fun hHeld6=>?_)
    clear hK Kx HH6
    refine wpAnyH_ready (rs:=[9]) (by kernel_rfl) (by simp) ?_
    refine AllReadyH.cons (o:=_) rfl (fun Kx hK=>?_) AllReadyH.nil
    go_simp
    refine (FEN.out _).mono ?_
    rintro e w7_ ⟨rfl,b7⟩
    have HH7:=S3 _ ((S4 _ hHeld6).trans (b7.mono (S4 _ hHeld6).size))
    have HV7:=Lib.hid ((b7.block _ (Array.getElem?_eq_some_iff.1 HV6.out).1).trans HV6.out)
    clear b7
    refine hK.out _ _ HH7 (fun hHeld7=>?_)
    clear hK Kx HH7
    refine wpAnyH_take (i:=10) (oi:=_) (v:=.tuple #[.agg FG.arr,.bool BB]) rfl (by kernel_rfl) (by kernel_rfl) (by kernel_rfl) (fun _ _ _ h=>h) (Or.inl ⟨by rfl,fun w' hSw=>by go_simp⟩) hHeld7 ?_
    simp only [Act.put,List.getElem_toArray,List.getElem_cons_zero,List.getElem_cons_succ,List.setIfInBounds_toArray,List.set_cons_zero,List.set_cons_succ]
    refine wpAnyH_take (i:=11) (oi:=_) (v:=.agg FG.arr) rfl (by kernel_rfl) (by kernel_rfl) (by kernel_rfl) (fun _ _ _ h=>h) (Or.inl ⟨by rfl,fun w' hSw=>by go_simp⟩) hHeld7 ?_
    simp only [Act.put,List.getElem_toArray,List.getElem_cons_zero,List.getElem_cons_succ,List.setIfInBounds_toArray,List.set_cons_zero,List.set_cons_succ]
    refine wpAnyH_take (i:=12) (oi:=_) (v:=.bool BB) rfl (by kernel_rfl) (by kernel_rfl) (by kernel_rfl) (fun _ _ _ h=>h) (Or.inl ⟨by rfl,fun w' hSw=>by go_simp⟩) hHeld7 ?_
    simp only [Act.put,List.getElem_toArray,List.getElem_cons_zero,List.getElem_cons_succ,List.setIfInBounds_toArray,List.set_cons_zero,List.set_cons_succ]
    refine wpAnyH_ready (rs:=[14]) (by kernel_rfl) (by simp) ?_
    refine AllReadyH.cons (o:=_) rfl (fun Kx hK=>?_) AllReadyH.nil
    refine step_store_row rfl 45 _ _ rfl V6 FG.arr rfl rfl 45 Gp.zero.arr HV7.out (by rw [gp_row.2,ZF.out]) (by rw [ZF.out]; rfl) (Gp.one _) ?_
    have HS8:=Lib.hid (show (World.setRow w7_ V6 FG.arr).heap[V6]?=some (.cells FG.arr 45 (0,0)) from setRow_heap _ _ _ _ _ _ HV7.out)
    have HH8:=S3 _ (show RowKit.Below w.heap.size w (World.setRow w7_ V6 FG.arr) from below_setRow' (S4 _ hHeld7) HL6 _)
    refine hK.out _ _ HH8 (fun hHeld8=>?_)
    clear hK Kx HH8
    simp only [Act.put,List.getElem_toArray,List.getElem_cons_zero,List.getElem_cons_succ]
    refine wpAnyH_ready (rs:=[15]) (by kernel_rfl) (by simp) ?_
    refine AllReadyH.cons (o:=_) rfl (fun Kx hK=>?_) AllReadyH.nil
    go_simp
    have HH9:=hHeld8
    refine hK.out _ _ HH9 (fun hHeld9=>?_)
    clear hK Kx HH9
    refine wpAnyH_done (by kernel_rfl) ?_ _
    go_wp2_with fail
    go_meet
    exact ⟨V6,rfl,rfl,HL6,HS8.out,S4 _ hHeld9⟩
  ·go_simp
   obtain ⟨w10_,hw10⟩:∃ x,x=wd.alloc (.cells Tryz.zeroCells45 45):=⟨_,rfl⟩
   have HV10:=Lib.hid (show w10_.heap[wd.heap.size]?=some (.cells Gp.zero.arr 45 (0,0)) from hw10▸gp_zero_arr▸heap_alloc_new _ _)
   have HH10:=S3 _ (show RowKit.Below w.heap.size w w10_ from hw10▸(S4 _ hHeld).alloc (S4 _ hHeld).size _)
   have HL10:w.heap.size≤wd.heap.size:=(S4 _ hHeld).size
   rw [← hw10]
   obtain ⟨V10,hV10⟩:∃ V,wd.heap.size=V:=⟨_,rfl⟩
   rw [hV10] at HV10 HL10 ⊢
   clear hw10 hV10
   refine hK.out _ _ HH10 (fun hHeld10=>?_)
   clear hK Kx HH10
   refine wpAnyH_ready (rs:=[8]) (by kernel_rfl) (by simp) ?_
   refine AllReadyH.cons (o:=_) rfl (fun Kx hK=>?_) AllReadyH.nil
   go_simp
   refine (EPO.out _ (S4 _ hHeld10)).mono ?_
   rintro e w11_ ⟨rfl,hq⟩
   replace hq:=hq.symm
   subst hq
   have HH11:=hHeld10
   refine hK.out _ _ HH11 (fun hHeld11=>?_)
   clear hK Kx HH11
   refine wpAnyH_ready (rs:=[9]) (by kernel_rfl) (by simp) ?_
   refine AllReadyH.cons (o:=_) rfl (fun Kx hK=>?_) AllReadyH.nil
   go_simp
   refine (FEN.out _).mono ?_
   rintro e w12_ ⟨rfl,b12⟩
   have HH12:=S3 _ ((S4 _ hHeld11).trans (b12.mono (S4 _ hHeld11).size))
   have HV12:=Lib.hid ((b12.block _ (Array.getElem?_eq_some_iff.1 HV10.out).1).trans HV10.out)
   clear b12
   refine hK.out _ _ HH12 (fun hHeld12=>?_)
   clear hK Kx HH12
   refine wpAnyH_take (i:=10) (oi:=_) (v:=.tuple #[.agg FG.arr,.bool BB]) rfl (by kernel_rfl) (by kernel_rfl) (by kernel_rfl) (fun _ _ _ h=>h) (Or.inl ⟨by rfl,fun w' hSw=>by go_simp⟩) hHeld12 ?_
   simp only [Act.put,List.getElem_toArray,List.getElem_cons_zero,List.getElem_cons_succ,List.setIfInBounds_toArray,List.set_cons_zero,List.set_cons_succ]
   refine wpAnyH_take (i:=11) (oi:=_) (v:=.agg FG.arr) rfl (by kernel_rfl) (by kernel_rfl) (by kernel_rfl) (fun _ _ _ h=>h) (Or.inl ⟨by rfl,fun w' hSw=>by go_simp⟩) hHeld12 ?_
   simp only [Act.put,List.getElem_toArray,List.getElem_cons_zero,List.getElem_cons_succ,List.setIfInBounds_toArray,List.set_cons_zero,List.set_cons_succ]
   refine wpAnyH_take (i:=12) (oi:=_) (v:=.bool BB) rfl (by kernel_rfl) (by kernel_rfl) (by kernel_rfl) (fun _ _ _ h=>h) (Or.inl ⟨by rfl,fun w' hSw=>by go_simp⟩) hHeld12 ?_
   simp only [Act.put,List.getElem_toArray,List.getElem_cons_zero,List.getElem_cons_succ,List.setIfInBounds_toArray,List.set_cons_zero,List.set_cons_succ]
   refine wpAnyH_ready (rs:=[14]) (by kernel_rfl) (by simp) ?_
   refine AllReadyH.cons (o:=_) rfl (fun Kx hK=>?_) AllReadyH.nil
   refine step_store_row rfl 45 _ _ rfl V10 FG.arr rfl rfl 45 Gp.zero.arr HV12.out (by rw [gp_row.2,ZF.out]) (by rw [ZF.out]; rfl) (Gp.one _) ?_
   have HS13:=Lib.hid (show (World.setRow w12_ V10 FG.arr).heap[V10]?=some (.cells FG.arr 45 (0,0)) from setRow_heap _ _ _ _ _ _ HV12.out)
   have HH13:=S3 _ (show RowKit.Below w.heap.size w (World.setRow w12_ V10 FG.arr) from below_setRow' (S4 _ hHeld12) HL10 _)
   refine hK.out _ _ HH13 (fun hHeld13=>?_)
   clear hK Kx HH13
   simp only [Act.put,List.getElem_toArray,List.getElem_cons_zero,List.getElem_cons_succ]
   refine wpAnyH_ready (rs:=[15]) (by kernel_rfl) (by simp) ?_
   refine AllReadyH.cons (o:=_) rfl (fun Kx hK=>?_) AllReadyH.nil
   go_simp
   have HH14:=hHeld13
   refine hK.out _ _ HH14 (fun hHeld14=>?_)
   clear hK Kx HH14
   refine wpAnyH_done (by kernel_rfl) ?_ _
   go_wp2_with fail
   go_meet
   exact ⟨V10,rfl,rfl,HL10,HS13.out,S4 _ hHeld14⟩
 case rest =>
  obtain ⟨V,rfl,rfl,hV,hc,hb⟩:=hcut
  have HC:=Lib.hid hc
  have T5:=Lib.hid (TB.out.same (KI0.out.same_of hb) (KI0.out.over hb).lt)
  have K5:=Lib.hid (KI0.out.over hb)
  have B5:=Lib.hid hb
  have TH:=Lib.hid (show wc.there T 1 FG.arr.size from by rw [ZF.out]; exact (tg_range T5.out.blk T5.out.ok).2)
  clear hc hb hV FEN EPO RG SC TB KI0
  go_upto_region 3 with (first | ((with_reducible refine ld_row1 rfl 45 _ rfl ?_); refine ⟨V,_,FG.arr,_,rfl,HC.out,gp_row.1,rfl,by rw [gp_row.2,ZF.out],?_⟩) | ((with_reducible refine st_mid1 rfl 45 _ _ rfl ?_); refine ⟨T,1,FG.arr,rfl,rfl,TH.out,by rw [gp_row.2,ZF.out],Gp.one _,?_⟩))
  obtain ⟨w6,hw6⟩:∃ w6,w6=wc.setCells T 1 FG.arr.toList:=⟨_,rfl⟩
  rw [← hw6]
  have P:=Lib.hid (show TgR w0 n D T { t with g:=FG } Y w6∧Keeps (·=T) w w6 from by
   have h2:=T5.out.setG OKF.out
   rw [← hw6] at h2
   exact ⟨⟨X,m,K5.out.set (h2.2.mono (fun b e=>e▸T5.out.xt)) LO.out,h2.1,LO.out,HY.out⟩,(Keeps.of_below B5.out).trans h2.2⟩)
  clear hw6 T5 K5 B5 TH HC
  cases BB
  ·go_wp2
   go_ret
   exact ⟨rfl,P.out⟩
  ·go_wp2
   go_ret
   exact ⟨rfl,P.out⟩
end
end Go.Proofs.YtbkmdmmgalmmaaaGreatDoor
