/-
  Contracts of a target's methods: write. (Printed in part by gen_tgw.py.)
-/
import Derived.Test.YtajegiifabfcjaaGreatDoorQ30
import Derived.Deep.AppendLies
import Derived.Deep.RegionLaw
namespace Go.Proofs.YtajegiifabfcjaaGreatDoor
open List (getElem_toArray getElem_cons_zero getElem_cons_succ setIfInBounds_toArray set_cons_zero set_cons_succ)
open Go.RowKit Go.Sort
theorem step_upd {P:Program} {ops:Array Oper} {o:Oper} {a:Act} {w:World} {K:Act→World→Prop} {Q:Exit→Act→World→Prop} {E:Prop} (hgd:o.guard=none) (t:TypeId) (m k x:Operand) (hop:o.op=.mapUpdate t m k x) (w':World)
  (hrun:(Instr.mapUpdate t (a.eval m) (a.eval k) (a.eval x)).run P w=.ok () w') (hK:K (a.put o.dst undef) w') :
  if Region.wanted o (yielded ops a.tmps)=true then Oper.wp P o a w K Q else E:=by
 have hw:Region.wanted o (yielded ops a.tmps)=true:=by simp [Region.wanted,hgd]
 rw [if_pos hw]
 have e:(execOp a.eval o).run P w=.ok .skip w':=by simp [execOp,hop,hrun,Result.andThen]
 unfold Oper.wp
 rw [e]
 exact hK
theorem run_len_wait (w:World) (b:Nat) (es:Array MapEntry) (cl:Nat) (hb:w.heap[b]?=some (.map es cl)):∀ ty,(Builtin.len_ #[108] ty #[.map (some b)]).run Tryz.prog w=.ok (.int .i64 (es.size:Int)) w:=fun ty=>by
 simp [Builtin.len_,run_underlying Tryz.underlying108,MapKept.run_getObj_map hb]
 rfl
section
variable {n D K:Nat} {k:Kp} {w wx w':World} {X:Nat→Prop}
theorem KI.wide (h:KI n w X D K k wx) (kp:Keeps X wx w') (hX:∀ b,X b→w.heap.size≤b):KI n w (fun c=>X c∨(wx.heap.size≤c∧c<w'.heap.size)) D K k w':=by
 obtain ⟨S,a,cap,kr,lo,kb,bl,hx,ax⟩:=h
 have hK:=(Array.getElem?_eq_some_iff.1 kr.blk).1
 refine ⟨S,a,cap,⟨(kp.block K (fun e=>(hx K e).2.2 rfl) hK).trans kr.blk,kr.dk.keeps kp (fun b e q=>(hx b q).2.1 e),kr.nk,fun b e=>Nat.lt_of_lt_of_le (kr.lt b e) kp.size,kr.str.keeps kp ax,kr.ap⟩,lo,kb,bl.trans (kp.below bl.size hX),fun c hc=>?_,fun b q e hn hXX=>?_⟩
 ·rcases hc with hc | hc
  ·exact ⟨Nat.lt_of_lt_of_le (hx c hc).1 kp.size,(hx c hc).2⟩
  ·exact ⟨hc.2,fun e=>by have:=kr.lt _ e; omega,by omega⟩
 ·subst e
  rcases hXX with hXX | hXX
  ·exact ax b q rfl hn hXX
  ·have:=kr.str.blt hn; omega
end
section
variable {X X':Nat→Prop} {w0 w w':World} {T:Nat} {m:Tm} {t:Tg}
theorem fly_cells (h:TgB X w0 w T m t) {b o:Nat} (e:m.fa=some ⟨b,o,none⟩):∃ cur,w.heap[b]?=some (.cells cur 125 (0,0)):=by
 obtain ⟨-,h2 | ⟨g,cap,cur,e1,_,e3,_⟩⟩:=h.fly
 ·rw [e] at h2; cases h2.1
 ·rw [e] at e1
  simp only [Value.slice.injEq,Option.some.injEq,Addr.mk.injEq] at e1
  obtain ⟨⟨rfl,_,_⟩,_⟩:=e1
  exact ⟨cur,e3⟩
theorem TgB.reMaps (h:TgB X w0 w T m t) (kp:Keeps (fun b=>b=m.W∨b=m.N∨b∈m.hm) w w') (hX:∀ b,X b→X' b) (hm':List Nat) (wait':List Wt) (done':List Int)
  (hw:IMap w' m.W (waitL wait' hm')) (hl:wait'.length=hm'.length) (hh:∀ i (h:i<hm'.length) (h2:i<wait'.length),X' hm'[i]∧hm'[i]≠m.W∧hm'[i]≠m.N∧IMap w' hm'[i] (boolL wait'[i].hv)) (ap:hm'.Pairwise (·≠·)) (hd:IMap w' m.N (boolL done')) :
  TgB X' w0 w' T { m with hm:=hm' } { t with wait:=wait',done:=done' }:=by
 have nM:∀ {b cs ty fr},w.heap[b]?=some (.cells cs ty fr)→¬ (b=m.W∨b=m.N∨b∈m.hm):=fun {b cs ty fr} hc e=>by
  rcases e with rfl | rfl | e
  ·obtain ⟨es,cl,h1,_⟩:=h.wait
   rw [hc] at h1; cases h1
  ·obtain ⟨es,cl,h1,_⟩:=h.done
   rw [hc] at h1; cases h1
  ·obtain ⟨i,hi,rfl⟩:=List.mem_iff_getElem.1 e
   obtain ⟨es,cl,h1,_⟩:=(h.have' i hi (by rw [h.wl]; exact hi)).2.2.2
   rw [hc] at h1; cases h1
 have hT:=(Array.getElem?_eq_some_iff.1 h.blk).1
 refine ⟨(kp.block T (nM h.blk) hT).trans h.blk,h.ok,hX _ h.xt,hX _ h.xw,hX _ h.xn,h.wn,fun q=>?_,hw,hl,hh,ap,?_,fun b o e=>hX _ (h.xf b o e),hd⟩
 ·refine ⟨fun i hi=>?_,(h.box q).len,(h.box q).cap,(h.box q).eq⟩
  obtain ⟨c,o,e,hbx,hlt,hc⟩:=(h.box q).ints i hi
  have hcs:∃ cs ty fr,w.heap[c]?=some (.cells cs ty fr):=by
   unfold World.cell? at hc
   cases hh:w.heap[c]? with
   | none=>rw [hh] at hc; simp at hc
   | some ob =>
    rw [hh] at hc
    cases ob with
    | cells cs ty fr=>exact ⟨cs,ty,fr,rfl⟩
    | _=>simp at hc
  obtain ⟨cs,ty,fr,hcs⟩:=hcs
  exact ⟨c,o,e,⟨hX _ hbx.1,hbx.2⟩,Nat.lt_of_lt_of_le hlt kp.size,(kp.cell (nM hcs) hlt).trans hc⟩
 ·refine ownsRow_same h.fly (fun c e=>?_)
  obtain ⟨-,cur,hc⟩:=fly_block h e
  exact kp.block c (nM hc) (Array.getElem?_eq_some_iff.1 hc).1
theorem waitL_snoc:∀ (l:List Wt) (hm:List Nat) (x:Wt) (b:Nat),l.length=hm.length→waitL (l ++ [x]) (hm ++ [b])=waitL l hm ++ [(x.tag,.agg #[.int .i64 x.who,.int .i64 x.num,.map (some b)])]
 | [],[],_,_,_=>rfl
 | [],_ :: _,_,_,h=>by simp at h
 | _ :: _,[],_,_,h=>by simp at h
 | y :: l,c :: hm,x,b,h=>by
  have:=waitL_snoc l hm x b (by simpa using h)
  simp only [List.cons_append,waitL]
  rw [this]
theorem findI_none (k:Int):∀ (l:List (Int × Value)) (i:Nat),(∀ p∈l,p.1≠k)→findI k l i=none
 | [],_,_=>rfl
 | p :: l,i,h=>by
  unfold findI
  rw [if_neg (h p (by simp))]
  exact findI_none k l (i+1) (fun q hq=>h q (by simp [hq]))
theorem waitL_keys:∀ (l:List Wt) (hm:List Nat),∀ p∈waitL l hm,∃ x∈l,x.tag=p.1
 | [],_,p,h=>by simp [waitL] at h
 | _ :: _,[],p,h=>by simp [waitL] at h
 | y :: l,c :: hm,p,h=>by
  simp only [waitL,List.mem_cons] at h
  rcases h with rfl | h
  ·exact ⟨y,by simp,rfl⟩
  ·obtain ⟨x,hx,e⟩:=waitL_keys l hm p h
   exact ⟨x,by simp [hx],e⟩
theorem Keeps.setO' {S:Nat→Prop} {a w:World} {b:Nat} (h:Keeps S a w) (hb:S b) (o:Obj):Keeps S a (setO w b o) :=
 h.trans ⟨rfl,rfl,rfl,by rw [setO_size]; exact Nat.le_refl _,fun c hc _=>setO_ne (fun e=>hc (e▸hb))⟩
theorem TgB.addWait (h:TgB X w0 w T m t) (lt:∀ b,X b→b<w.heap.size) (x:Wt) (hx:x.hv=[]) (o:Obj) (hi:IMap (setO (w.drew.alloc (.map #[] 0)) m.W o) m.W (waitL t.wait m.hm ++ [(x.tag,.agg #[.int .i64 x.who,.int .i64 x.num,.map (some w.heap.size)])])) :
  TgB (fun c=>X c∨(w.heap.size≤c∧c<(setO (w.drew.alloc (.map #[] 0)) m.W o).heap.size)) w0 (setO (w.drew.alloc (.map #[] 0)) m.W o) T { m with hm:=m.hm ++ [w.heap.size] } { t with wait:=t.wait ++ [x] }∧Keeps (·=m.W) w (setO (w.drew.alloc (.map #[] 0)) m.W o):=by
 have hz:(setO (w.drew.alloc (.map #[] 0)) m.W o).heap.size=w.heap.size+1:=by rw [setO_size]; simp
 have kp:Keeps (·=m.W) w (setO (w.drew.alloc (.map #[] 0)) m.W o):=((Keeps.refl (·=m.W) w).drew.alloc _).setO' rfl o
 have hW:m.W<w.heap.size:=h.wait.lt
 have hN:m.N<w.heap.size:=h.done.lt
 have hH:∀ b∈m.hm,b<w.heap.size∧X b:=fun b hb=>by
  obtain ⟨i,hi,rfl⟩:=List.mem_iff_getElem.1 hb
  have q:=h.have' i hi (by rw [h.wl]; exact hi)
  exact ⟨lt _ q.1,q.1⟩
 refine ⟨h.reMaps (kp.mono (fun b e=>.inl e)) (fun b e=>.inl e) _ _ t.done (by rw [waitL_snoc _ _ _ _ h.wl]; exact hi) (by simp [h.wl]) (fun i h1 h2=>?_) ?_ (h.done.move (kp.block _ (Ne.symm h.wn) hN)),kp⟩
 ·by_cases hi':i<m.hm.length
  ·obtain ⟨q1,q2,q3,q4⟩:=h.have' i hi' (by rw [h.wl]; exact hi')
   rw [List.getElem_append_left hi',List.getElem_append_left (by rw [h.wl]; exact hi')]
   exact ⟨.inl q1,q2,q3,q4.move (kp.block _ q2 (lt _ q1))⟩
  ·have:i=m.hm.length:=by simp at h1; omega
   subst this
   rw [List.getElem_concat_length rfl,List.getElem_append_right (by rw [h.wl]; exact Nat.le_refl _)]
   simp only [h.wl,Nat.sub_self,List.getElem_cons_zero,hx]
   refine ⟨.inr ⟨Nat.le_refl _,by omega⟩,by omega,by omega,?_⟩
   exact (IMap.new w.drew).move (setO_ne (by show w.heap.size≠m.W; omega))
 ·rw [List.pairwise_append]
  refine ⟨h.apart,List.pairwise_singleton _ _,fun a ha b hb=>?_⟩
  rw [List.mem_singleton.1 hb]
  have:=(hH a ha).1
  omega
end
theorem TgR.push {X:Nat→Prop} {w0 w w1 w2:World} {n D T:Nat} {m:Tm} {t:Tg} {Y:Nat→Prop} (ki:KI n w0 X D m.K t.k w) (tb:TgB X w0 w T m t) (lo:∀ b,X b→w0.heap.size≤b) (hy:∀ b,Y b→X b∧¬ m.own T b) (b1:Below w.heap.size w w1) (g cap:Nat) (l:List Ms)
  (ho:OwnM w0.heap.size w2 (.slice (some ⟨g,0,none⟩) l.length cap) l) (gr:w1.grownBy w2 (Value.slice m.fa t.fly.length m.fc).ownBlock) (hat:(Value.slice m.fa t.fly.length m.fc).ownBlock=some g∨g=w1.heap.size) (hlt:g<w2.heap.size) :
  TgR w0 n D T { t with fly:=l } Y (w2.setCell ⟨T,86,none⟩ (.slice (some ⟨g,0,none⟩) l.length cap))∧Same Y w (w2.setCell ⟨T,86,none⟩ (.slice (some ⟨g,0,none⟩) l.length cap)):=by
 have hob:∀ b,(Value.slice m.fa t.fly.length m.fc).ownBlock=some b→∃ o,m.fa=some ⟨b,o,none⟩:=fun b e=>by
  obtain ⟨-,h2 | ⟨g',cap',cur,e1,_⟩⟩:=tb.fly
  ·rw [h2.1] at e; cases e
  ·rw [e1] at e
   have:g'=b:=by simpa [Value.ownBlock] using e
   subst this
   simp only [Value.slice.injEq] at e1
   exact ⟨0,e1.1⟩
 have kp0:Keeps (fun b=>∃ o,m.fa=some ⟨b,o,none⟩) w w2:=(Keeps.of_below b1).trans ⟨gr.os,gr.tape,gr.output,gr.size,fun b hb hl=>gr.block b hl (fun e=>hb (hob b e.symm))⟩
 have kX:Keeps X w w2:=kp0.mono (fun b ⟨o,e⟩=>tb.xf b o e)
 have hgT:g≠T:=by
  rcases hat with e | e
  ·obtain ⟨o,e⟩:=hob g e
   obtain ⟨cur,hc⟩:=fly_cells tb e
   intro q
   subst q
   rw [tb.blk] at hc
   have e7:(111:Nat)=125:=congrArg (fun o:Option Obj=>match o with | some (.cells _ ty _)=>ty | _=>0) hc
   exact absurd e7 (by decide)
  ·have:=(Array.getElem?_eq_some_iff.1 tb.blk).1
   have:=b1.size
   omega
 have gX:∀ c,c=g→X c∨(w.heap.size≤c∧c<w2.heap.size):=fun c e=>by
  subst e
  rcases hat with e | e
  ·obtain ⟨o,e⟩:=hob _ e
   exact .inl (tb.xf _ o e)
  ·exact .inr ⟨by have:=b1.size; omega,hlt⟩
 have tb2:=tb.reFly (X':=fun c=>X c∨(w.heap.size≤c∧c<w2.heap.size)) kp0 (fun c e=>.inl e) (some ⟨g,0,none⟩) cap l ho (fun b o e=>by
  cases e
  refine ⟨gX _ rfl,hgT,?_⟩
  rcases hat with e | e
  ·exact .inr (hob _ e)
  ·exact .inl (fun hX=>by have:=ki.lt _ hX; have:=b1.size; omega))
 have k1:=ki.wide kX lo
 have lo1:∀ c,(X c∨(w.heap.size≤c∧c<w2.heap.size))→w0.heap.size≤c:=fun c e=>by
  rcases e with e | e
  ·exact lo c e
  ·exact Nat.le_trans ki.below.size e.1
 have kpX:∀ {S:Nat→Prop},S T→Keeps S w2 (w2.setCell ⟨T,86,none⟩ (.slice (some ⟨g,0,none⟩) l.length cap)):=fun {S} hS=>(Keeps.refl S w2).setCell (p:=⟨T,86,none⟩) hS _
 have hT1:(fun c=>X c∨(w.heap.size≤c∧c<w2.heap.size)) T:=.inl tb.xt
 refine ⟨⟨_,{ m with fa:=some ⟨g,0,none⟩,fc:=cap },k1.set (kpX hT1) lo1,tb2,lo1,fun c e=>⟨.inl (hy c e).1,fun ho=>?_⟩⟩,
  fun c hc=>((kpX (S:=(·=T)) rfl).block c (fun e=>(hy c hc).2 (.inl e)) (Nat.lt_of_lt_of_le (ki.lt c (hy c hc).1) kX.size)).trans (kp0.block c (fun ⟨o,e⟩=>(hy c hc).2 (.inr (.inr (.inr (.inr (.inl ⟨o,e⟩)))))) (ki.lt c (hy c hc).1))⟩
 rcases ho with ho | ho | ho | ho | ⟨o,ho⟩ | ho
 ·exact (hy c e).2 (.inl ho)
 ·exact (hy c e).2 (.inr (.inl ho))
 ·exact (hy c e).2 (.inr (.inr (.inl ho)))
 ·exact (hy c e).2 (.inr (.inr (.inr (.inl ho))))
 ·cases ho
  rcases hat with e' | e'
  ·obtain ⟨o',e'⟩:=hob _ e'
   exact (hy g e).2 (.inr (.inr (.inr (.inr (.inl ⟨o',e'⟩)))))
  ·have:=ki.lt _ (hy _ e).1
   have:=b1.size
   omega
 ·exact (hy c e).2 (.inr (.inr (.inr (.inr (.inr ho)))))
structure WC (T K A:Nat) (NU TA:Int) (c:Cmd) (w:World):Prop where
 c0:w.cell? ⟨T,0,none⟩=some (.pointer (some ⟨K,0,none⟩))
 c3:w.cell? ⟨T,83,none⟩=some (.int .i64 NU)
 c4:w.cell? ⟨T,84,none⟩=some (.int .i64 TA)
 b1:w.cell? ⟨A,1,none⟩=some (.int .i64 c.who)
 b5:w.cell? ⟨A,5,none⟩=some (.int .i64 c.at')
 b7:w.cell? ⟨A,7,none⟩=some (.string c.data)
theorem WC.blocks {T K A:Nat} {NU TA:Int} {c:Cmd} {w w':World} (h:WC T K A NU TA c w) (h1:w'.heap[T]?=w.heap[T]?) (h2:w'.heap[A]?=w.heap[A]?):WC T K A NU TA c w' :=
 ⟨(World.cell?_of_block (a:=⟨T,0,none⟩) h1).trans h.c0,(World.cell?_of_block (a:=⟨T,83,none⟩) h1).trans h.c3,(World.cell?_of_block (a:=⟨T,84,none⟩) h1).trans h.c4,
  (World.cell?_of_block (a:=⟨A,1,none⟩) h2).trans h.b1,(World.cell?_of_block (a:=⟨A,5,none⟩) h2).trans h.b5,(World.cell?_of_block (a:=⟨A,7,none⟩) h2).trans h.b7⟩
theorem WC.set86 {T K A:Nat} {NU TA:Int} {c:Cmd} {w:World} (h:WC T K A NU TA c w) (v:Value):WC T K A NU TA c (w.setCell ⟨T,86,none⟩ v):=by
 have e:∀ b i,(b≠T∨i≠86)→(w.setCell ⟨T,86,none⟩ v).cell? ⟨b,i,none⟩=w.cell? ⟨b,i,none⟩:=fun b i hne=>by
  rw [World.cell?_setCell_other _ _ _ _ (by intro e; simp only [Addr.mk.injEq] at e; omega)]
 exact ⟨(e _ _ (.inr (by decide))).trans h.c0,(e _ _ (.inr (by decide))).trans h.c3,(e _ _ (.inr (by decide))).trans h.c4,(e _ _ (.inr (by decide))).trans h.b1,(e _ _ (.inr (by decide))).trans h.b5,(e _ _ (.inr (by decide))).trans h.b7⟩
def Tg.w3 (t:Tg) (c:Cmd) (k:Nat):Tg:={ t with num:=t.num+1,tag:=t.tag+1,fly:=t.fly ++ [t.msg c 0,t.msg c 1,t.msg c 2].take k }
section
variable (w0 w:World) (n D T:Nat) (t:Tg) (Y:Nat→Prop)
structure TgW (t:Tg):Prop where
 n0:0≤t.num∧t.num<1000000000000000
 t0:0≤t.tag∧t.tag<1000000000000000
 fl:t.fly.length≤1000
 wt:∀ x∈t.wait,x.tag≤t.tag
set_option maxRecDepth 100000 in
set_option maxHeartbeats 40000000 in
theorem twrite_any (c:Cmd) (h:TgR w0 n D T t Y w) (hw:TgW t) :
  Calls Tryz.prog 61 #[.pointer (some ⟨T,0,none⟩),cmdV c] w fun e w'=>e=.returned (.tuple #[.int .i64 (t.write c).2.1,errV (t.write c).2.2])∧TgR w0 n D T (t.write c).1 Y w'∧Same Y w w':=by
 have HW:=Lib.hid hw
 have HH:=Lib.hid h
 obtain ⟨w1,hw1⟩:∃ w1,w1=w.alloc (.cells #[.int .i64 c.op,.int .i64 c.who,.int .i64 c.key,.int .i64 c.new,.int .i64 c.typ,.int .i64 c.at',.bool c.stays,.string c.data,.string c.want] 37):=⟨_,rfl⟩
 have B1:=Lib.hid (show RowKit.Below w.heap.size w w1 from hw1▸bal w _)
 have R1:=Lib.hid (show w1.heap[w.heap.size]?=some (.cells #[.int .i64 c.op,.int .i64 c.who,.int .i64 c.key,.int .i64 c.new,.int .i64 c.typ,.int .i64 c.at',.bool c.stays,.string c.data,.string c.want] 37 (0,0)) from hw1▸heap_alloc_new w _)
 obtain ⟨Z,hZ⟩:∃ Z:Nat→Prop,Z=fun c=>Y c∨(w.heap.size≤c∧c<w1.heap.size):=⟨_,rfl⟩
 have ZY:=Lib.hid (show ∀ b,Y b→Z b from fun b hb=>hZ▸Or.inl hb)
 have ZA:=Lib.hid (show Z w.heap.size from hZ▸Or.inr ⟨Nat.le_refl _,(Array.getElem?_eq_some_iff.1 R1.out).1⟩)
 have SY1:=Lib.hid (show Same Y w w1 from fun b hb=>B1.out.block b (h.lt_y b hb))
 have hm1:TgR w0 n D T t Z w1:=hZ▸h.more B1.out
 clear hZ h
 obtain ⟨X,m,ki,tb,lo,hy⟩:=hm1
 have K1:=Lib.hid ki
 have T1:=Lib.hid tb
 have LO:=Lib.hid lo
 have HY:=Lib.hid hy
 have hT:=(Array.getElem?_eq_some_iff.1 T1.out.blk).1
 obtain ⟨⟨y0,-,-,-,-,y3,y4,y5,y6,-⟩,-,-,-,-,-,z3,z4,-⟩:=tg_cells T1.out.blk T1.out.ok
 obtain ⟨es,cl,hWm,hes⟩:=T1.out.wait
 have hsz:es.size=t.wait.length:=by
  have:=congrArg List.length hes
  have e2:(waitL t.wait m.hm).length=t.wait.length:=by
   have:∀ (l:List Wt) (hm:List Nat),l.length=hm.length→(waitL l hm).length=l.length:=by
    intro l
    induction l with
    | nil=>intro hm _; cases hm <;> rfl
    | cons x l ih =>
     intro hm h
     cases hm with
     | nil=>simp at h
     | cons y hm=>simp [waitL,ih hm (by simpa using h)]
   exact this _ _ T1.out.wl
  simpa [e2] using this
 have hlm:=run_len_wait w1 m.W es cl hWm
 rw [hsz] at hlm
 clear ki tb lo hy hes
 have WR:=Lib.hid (show t.write c=if t.wait.length=6∨40<t.fly.length+3 then (t,0,6) else ({ t with num:=t.num+1,tag:=t.tag+1,fly:=t.fly ++ [t.msg c 0,t.msg c 1,t.msg c 2],wait:=t.wait ++ [⟨t.tag+1,c.who,t.num+1,[]⟩] },t.tag+1,0) from rfl)
 obtain ⟨r,hr⟩:∃ r,t.write c=r:=⟨_,rfl⟩
 rw [hr] at WR ⊢
 clear hr
 have hfl:=hw.fl
 by_cases h6:t.wait.length=6
 ·have E:=Lib.hid (WR.out.trans (if_pos (.inl h6)))
  rw [h6] at hlm
  clear hw h6 WR hsz
  go_enter Tryz.func61,Tryz.ntmps61
  go_upto_region 1 with fail
  rw [← hw1]
  clear hw1
  go_wp2
  rw [E.out]
  exact bodyPost_ret (v:=.tuple #[.int .i64 0,.iface 95 (.int .i64 6)]) (by simp [results,Tryz.results61,go_sem]) rfl ⟨rfl,HH.out.over B1.out,SY1.out⟩
 have q1:((t.wait.length:Int) == 6)=false:=by simp; omega
 have q3:¬ (t.wait.length:Int)=6:=by omega
 have q4:decide ((t.wait.length:Int)=6)=false:=by simp; omega
 by_cases h4:40<t.fly.length+3
 ·have E:=Lib.hid (WR.out.trans (if_pos (.inr h4)))
  have q2:decide ((40:Int)<(t.fly.length:Int)+3)=true:=by simp; omega
  clear hw h6 WR h4
  go_enter Tryz.func61,Tryz.ntmps61
  go_upto_region 1 with fail
  rw [← hw1]
  clear hw1
  go_wp2
  rw [E.out]
  exact bodyPost_ret (v:=.tuple #[.int .i64 0,.iface 95 (.int .i64 6)]) (by simp [results,Tryz.results61,go_sem]) rfl ⟨rfl,HH.out.over B1.out,SY1.out⟩
 have E:=Lib.hid (WR.out.trans (if_neg (by omega)))
 rw [E.out]
 have q2:decide ((40:Int)<(t.fly.length:Int)+3)=false:=by simp; omega
 have HF:=Lib.hid (show t.fly.length≤37 by omega)
 clear hw h6 WR h4 HH
 obtain ⟨NU,hNU⟩:∃ NU,t.num+1=NU:=⟨_,rfl⟩
 obtain ⟨TA,hTA⟩:∃ TA,t.tag+1=TA:=⟨_,rfl⟩
 have wn:IntKind.i64.wrap (t.num+1)=NU:=hNU▸IntWalk.i64_in _ (by have:=HW.out.n0; omega)
 have wt:IntKind.i64.wrap (t.tag+1)=TA:=hTA▸IntWalk.i64_in _ (by have:=HW.out.t0; omega)
 have HNU:=Lib.hid hNU
 have HTA:=Lib.hid hTA
 rw [hNU,hTA]
 obtain ⟨w2,hw2⟩:∃ w2,w2=(w1.setCell ⟨T,83,none⟩ (.int .i64 NU)).setCell ⟨T,84,none⟩ (.int .i64 TA):=⟨_,rfl⟩
 have P2:=Lib.hid (show TgR w0 n D T (t.w3 c 0) Z w2∧Same Z w1 w2 from by
  have e1:=tg_set T1.out.blk T1.out.ok 4 (.int .i64 NU) (m':=m) (t':={ t with num:=NU }) rfl rfl rfl
  have e2:=tg_set e1 T1.out.ok 5 (.int .i64 TA) (m':=m) (t':={ t with num:=NU,tag:=TA }) rfl rfl rfl
  have kp:Keeps (·=T) w1 w2:=hw2▸((Keeps.refl (·=T) w1).setCell (p:=⟨T,83,none⟩) rfl _).setCell (p:=⟨T,84,none⟩) rfl _
  have e3:t.w3 c 0={ t with num:=NU,tag:=TA }:=by unfold Tg.w3; rw [hNU,hTA,List.take_zero,List.append_nil]
  rw [e3]
  exact ⟨⟨X,m,K1.out.set (kp.mono (fun b e=>e▸T1.out.xt)) LO.out,T1.out.turn kp (hw2▸e2) T1.out.ok rfl rfl rfl rfl,LO.out,HY.out⟩,fun b hb=>kp.block b (fun e=>(HY.out b hb).2 (.inl e)) (K1.out.lt b (HY.out b hb).1)⟩)
 clear hNU hTA
 have i9:=Tryz.infoMsg
 obtain ⟨i0,hi,hz0,hz1,hz2⟩:=info_parts i9
 clear i9
 have hmm:=@run_makeMap Tryz.prog
 have LOW:=Lib.hid (show w0.heap.size≤w1.heap.size from K1.out.below.size)
 go_enter Tryz.func61,Tryz.ntmps61
 go_upto_region 1 with fail
 rw [← hw1]
 clear hw1
 go_upto_region 5 with fail
 rw [← hw2]
 clear hw2 y0 y3 y4 y5 y6 z3 z4 hT hlm hWm hsz q1 q2 q3 q4 wn wt K1 T1 LO HY
 go_wp2
 go_loopw [6,37] (fun u i wr=>∃ k:Nat,k≤3∧i=.int .i64 k∧TgR w0 n D T (t.w3 c k) Z wr∧Same Z w1 wr) (fun _ i _=>3 - (intOf i).toNat)
 case atStart=>exact ⟨0,by omega,rfl,P2.out.1,P2.out.2⟩
 case round =>
 obtain ⟨k,hk,rfl,hR,hS⟩:=hrel
 have HS:=Lib.hid hS
 have HR:=Lib.hid hR
 obtain ⟨X,m,ki,tb,lo,hy⟩:=hR
 have hT:=(Array.getElem?_eq_some_iff.1 tb.blk).1
 have hA:w.heap.size<wr.heap.size:=by
  have q:=(hS _ ZA.out).trans R1.out
  exact (Array.getElem?_eq_some_iff.1 q).1
 have WC0:=Lib.hid (show WC T m.K w.heap.size NU TA c wr from by
  obtain ⟨⟨y0,-,-,-,-,y3,y4,-⟩,-⟩:=tg_cells tb.blk tb.ok
  have q:=(hS _ ZA.out).trans R1.out
  refine ⟨y0,y3.trans (by rw [← HNU.out]; rfl),y4.trans (by rw [← HTA.out]; rfl),?_,?_,?_⟩ <;> simp [World.cell?,q])
 have WCB0:=Lib.hid (fun w' (b:RowKit.Below wr.heap.size wr w')=>WC0.out.blocks (b.block T hT) (b.block _ hA))
 have EPO:=Lib.hid (fun w' (b:RowKit.Below wr.heap.size wr w')=>epochI n w0 w' X D m.K (t.w3 c k).k (ki.over b))
 obtain ⟨EP,hEP⟩:∃ EP,(t.w3 c k).k.ep=EP:=⟨_,rfl⟩
 rw [hEP] at EPO
 have HEP:=Lib.hid (show t.k.ep=EP from hEP)
 have LO1:=Lib.hid (show w0.heap.size≤wr.heap.size from ki.below.size)
 clear hEP hS LOW P2
 by_cases hlt:k<3
 ·have WCB:=Lib.hid WCB0.out
  obtain ⟨L,hL⟩:∃ L,(t.w3 c k).fly.length=L:=⟨_,rfl⟩
  obtain ⟨xs,hxs⟩:∃ xs,flyL (t.w3 c k).fly=xs:=⟨_,rfl⟩
  have LB:=Lib.hid (show L≤40 from by
   rw [← hL]; unfold Tg.w3
   simp only [List.length_append,List.length_take]
   have:=HF.out
   simp
   omega)
  have hLB:=LB.out
  have TC:=Lib.hid (fun w' (b:RowKit.Below wr.heap.size wr w')=>(b.cell (p:=⟨T,86,none⟩) hT).trans (hL▸(tg_cells tb.blk tb.ok).1.2.2.2.2.2.2.2.2.1:wr.cell? ⟨T,86,none⟩=some (.slice m.fa L m.fc)))
  have OMB:=Lib.hid (show ∀ w',RowKit.Below wr.heap.size wr w'→w'.ownsRow w0.heap.size 125 6 (.slice m.fa L m.fc) L xs from fun w' b=>by
   have q:=ownsRow_same tb.fly (fun b' e=>b.block b' (ki.lt b' (fly_block tb e).1))
   rw [hL,hxs] at q
   exact q)
  have NOT:=Lib.hid (show (Value.slice m.fa L m.fc).ownBlock≠some T∧(Value.slice m.fa L m.fc).ownBlock≠some w.heap.size from by
   rw [← hL]
   refine ⟨fun e=>?_,fun e=>?_⟩
   ·obtain ⟨-,cur,hc⟩:=fly_block tb e
    rw [tb.blk] at hc
    have e7:(111:Nat)=125:=congrArg (fun o:Option Obj=>match o with | some (.cells _ ty _)=>ty | _=>0) hc
    exact absurd e7 (by decide)
   ·obtain ⟨-,cur,hc⟩:=fly_block tb e
    rw [(HS.out _ ZA.out).trans R1.out] at hc
    have e7:(37:Nat)=125:=congrArg (fun o:Option Obj=>match o with | some (.cells _ ty _)=>ty | _=>0) hc
    exact absurd e7 (by decide))
  have BLK:=Lib.hid (show ∀ w' w'',RowKit.Below wr.heap.size wr w'→w'.grownBy w'' (Value.slice m.fa L m.fc).ownBlock→w''.heap[T]?=wr.heap[T]?∧w''.heap[w.heap.size]?=wr.heap[w.heap.size]? from fun w' w'' b gr =>
   ⟨(gr.block T (Nat.lt_of_lt_of_le hT b.size) (Ne.symm NOT.out.1)).trans (b.block T hT),(gr.block _ (Nat.lt_of_lt_of_le hA b.size) (Ne.symm NOT.out.2)).trans (b.block _ hA)⟩)
  have WCG:=Lib.hid (fun w' w'' (b:RowKit.Below wr.heap.size wr w') (gr:w'.grownBy w'' (Value.slice m.fa L m.fc).ownBlock)=>WC0.out.blocks (BLK.out w' w'' b gr).1 (BLK.out w' w'' b gr).2)
  have FCG:=Lib.hid (show ∀ w' w'',RowKit.Below wr.heap.size wr w'→w'.grownBy w'' (Value.slice m.fa L m.fc).ownBlock→w''.cell? ⟨T,86,none⟩=some (.slice m.fa L m.fc)∧w''.frozen? ⟨T,86,none⟩=false from fun w' w'' b gr=>by
   have q:=(BLK.out w' w'' b gr).1
   refine ⟨(World.cell?_of_block (a:=⟨T,86,none⟩) q).trans (TC.out wr (Below.refl _ _)),?_⟩
   have:=(tg_cells (q.trans tb.blk) tb.ok).2.2.2.2.2.2.2.2.2.1
   exact this)
  have WCS:=Lib.hid (fun w' (h:WC T m.K w.heap.size NU TA c w') (v:Value)=>h.set86 v)
  have ONE:=Lib.hid (show ∀ u∈[Value.int .i64 (k:Int),.int .i64 c.at',.int .i64 EP,.int .i64 NU,.string c.data,.int .i64 TA],u.oneCell'=true from fun u hu=>by
   simp only [List.mem_cons,List.mem_nil_iff,or_false] at hu
   rcases hu with h | h | h | h | h | h <;> subst h <;> rfl)
  have PUSH:=Lib.hid (show ∀ w' w'' g cap,w''.ownsRow w0.heap.size 125 6 (.slice (some ⟨g,0,none⟩) (L+1) cap) (L+1) (xs ++ [Value.int .i64 (k:Int),.int .i64 c.at',.int .i64 EP,.int .i64 NU,.string c.data,.int .i64 TA])→RowKit.Below wr.heap.size wr w'→w'.grownBy w'' (Value.slice m.fa L m.fc).ownBlock→((Value.slice m.fa L m.fc).ownBlock=some g∨g=w'.heap.size)→g<w''.heap.size →
    TgR w0 n D T (t.w3 c (k+1)) Z (w''.setCell ⟨T,86,none⟩ (.slice (some ⟨g,0,none⟩) (L+1) cap))∧Same Z w1 (w''.setCell ⟨T,86,none⟩ (.slice (some ⟨g,0,none⟩) (L+1) cap)) from fun w' w'' g cap own b gr hat hlt'=>by
   have e1:(t.w3 c (k+1)).fly=(t.w3 c k).fly ++ [t.msg c (k:Int)]:=by
    unfold Tg.w3
    have:k=0∨k=1∨k=2:=by omega
    rcases this with rfl | rfl | rfl <;> simp
   have e2:(t.w3 c (k+1)).fly.length=L+1:=by rw [e1,List.length_append,hL]; rfl
   have e3:flyL (t.w3 c (k+1)).fly=xs ++ [Value.int .i64 (k:Int),.int .i64 c.at',.int .i64 EP,.int .i64 NU,.string c.data,.int .i64 TA]:=by
    rw [e1,flyL_append,hxs,← HEP.out,← HNU.out,← HTA.out]
    rfl
   have e4:t.w3 c (k+1)={ t.w3 c k with fly:=(t.w3 c (k+1)).fly }:=rfl
   rw [← hL] at gr hat
   have q:=TgR.push ki tb lo hy b g cap (t.w3 c (k+1)).fly (by rw [e2]; unfold OwnM; rw [e2,e3]; exact own) gr hat hlt'
   rw [← e4,e2] at q
   exact ⟨q.1,fun b hb=>(q.2 b hb).trans (HS.out b hb)⟩)
  clear ki tb lo hy hL hxs HR HS WC0 WCB0
  go_upto_region 8 with fail
  obtain ⟨S,hS⟩:∃ S:World→Prop,S=fun w'=>WC T m.K w.heap.size NU TA c w':=⟨_,rfl⟩
  have S3:∀ w',WC T m.K w.heap.size NU TA c w'→S w':=fun w' h=>by rw [hS]; exact h
  have S4:∀ w',S w'→WC T m.K w.heap.size NU TA c w':=fun w' h=>by rw [hS] at h; exact h
  clear hS
  refine wp_region_held_drew (S:=S) (by kernel_rfl) (S3 _ (WCB.out _ (Below.refl _ _).drew)) (fun hHeld=>?_)
  obtain ⟨wd,hwd⟩:∃ wd,wd=wr.drew:=⟨_,rfl⟩
  rw [← hwd] at hHeld ⊢
  have bd:RowKit.Below wr.heap.size wr wd:=hwd▸(Below.refl _ _).drew
  clear hwd
  refine wt 0 (.pointer (some ⟨T,0,none⟩)) hHeld ?_
  go_simp
  refine wt 1 (.pointer (some ⟨T,0,none⟩)) hHeld ?_
  go_simp
  refine wt 2 (.pointer (some ⟨T,0,none⟩)) hHeld ?_
  go_simp
  refine wt 3 (.pointer (some ⟨T,86,none⟩)) hHeld ?_
  go_simp
  refine wt 5 (.int .i64 (k:Int)) hHeld ?_
  go_simp
  refine wt 6 (.pointer (some ⟨w.heap.size,5,none⟩)) hHeld ?_
  go_simp
  refine wt 7 (.int .i64 c.at') hHeld ?_ (hy:=Or.inl ⟨by rfl,fun w' hSw=>by have hc:=S4 _ hSw; obtain ⟨q0,q3,q4,q1,q5,q7⟩:=hc; go_simp⟩)
  go_simp
  refine wt 8 (.pointer (some ⟨T,0,none⟩)) hHeld ?_
  go_simp
  refine wt 9 (.pointer (some ⟨T,0,none⟩)) hHeld ?_
  go_simp
  refine wt 10 (.pointer (some ⟨T,0,none⟩)) hHeld ?_
  go_simp
  refine wt 11 (.pointer (some ⟨m.K,0,none⟩)) hHeld ?_ (hy:=Or.inl ⟨by rfl,fun w' hSw=>by have hc:=S4 _ hSw; obtain ⟨q0,q3,q4,q1,q5,q7⟩:=hc; go_simp⟩)
  go_simp
  refine wt 13 (.pointer (some ⟨T,0,none⟩)) hHeld ?_
  go_simp
  refine wt 14 (.pointer (some ⟨T,0,none⟩)) hHeld ?_
  go_simp
  refine wt 15 (.pointer (some ⟨T,83,none⟩)) hHeld ?_
  go_simp
  refine wt 16 (.int .i64 NU) hHeld ?_ (hy:=Or.inl ⟨by rfl,fun w' hSw=>by have hc:=S4 _ hSw; obtain ⟨q0,q3,q4,q1,q5,q7⟩:=hc; go_simp⟩)
  go_simp
  refine wt 17 (.pointer (some ⟨w.heap.size,7,none⟩)) hHeld ?_
  go_simp
  refine wt 18 (.string c.data) hHeld ?_ (hy:=Or.inl ⟨by rfl,fun w' hSw=>by have hc:=S4 _ hSw; obtain ⟨q0,q3,q4,q1,q5,q7⟩:=hc; go_simp⟩)
  go_simp
  refine wt 20 (.pointer (some ⟨T,0,none⟩)) hHeld ?_
  go_simp
  refine wt 21 (.pointer (some ⟨T,0,none⟩)) hHeld ?_
  go_simp
  refine wt 22 (.pointer (some ⟨T,84,none⟩)) hHeld ?_
  go_simp
  refine wt 23 (.int .i64 TA) hHeld ?_ (hy:=Or.inl ⟨by rfl,fun w' hSw=>by have hc:=S4 _ hSw; obtain ⟨q0,q3,q4,q1,q5,q7⟩:=hc; go_simp⟩)
  go_simp
  refine wpAnyH_ready (rs:=[4,12]) (by kernel_rfl) (by simp) ?_
  refine AllReadyH.cons (o:=_) rfl (fun Kx hK=>?_) (AllReadyH.cons (o:=_) rfl (fun Kx hK=>?_) AllReadyH.nil)
  ·have hc4:=TC.out wd bd
   go_simp
   clear hc4
   have HH1:=hHeld
   refine hK.out _ _ HH1 (fun hHeld1=>?_)
   clear hK Kx HH1
   refine wpAnyH_ready (rs:=[12]) (by kernel_rfl) (by simp) ?_
   refine AllReadyH.cons (o:=_) rfl (fun Kx hK=>?_) AllReadyH.nil
   go_simp
   refine (EPO.out _ bd).mono ?_
   rintro e w2_ ⟨rfl,hq⟩
   replace hq:=hq.symm
   subst hq
   have HH2:=hHeld1
   refine hK.out _ _ HH2 (fun hHeld2=>?_)
   clear hK Kx HH2
   refine wt 19 (.agg #[.int .i64 EP,.int .i64 NU,.string c.data]) hHeld2 ?_
   go_simp
   refine wt 24 (.agg #[.int .i64 (k:Int),.int .i64 c.at',.int .i64 EP,.int .i64 NU,.string c.data,.int .i64 TA]) hHeld2 ?_
   go_simp
   refine wpAnyH_ready (rs:=[25]) (by kernel_rfl) (by simp) ?_
   refine AllReadyH.cons (o:=_) rfl (fun Kx hK=>?_) AllReadyH.nil
   go_simp
   obtain ⟨w3_,hw3⟩:∃ x,x=wd.alloc (.cells #[.int .i64 (k:Int),.int .i64 c.at',.int .i64 EP,.int .i64 NU,.string c.data,.int .i64 TA] 125):=⟨_,rfl⟩
   have b3:RowKit.Below wr.heap.size wr w3_:=hw3▸RowKit.Below.alloc bd (bd).size _
   have NB3:=Lib.hid (show w3_.heap[wd.heap.size]?=some (.cells #[.int .i64 (k:Int),.int .i64 c.at',.int .i64 EP,.int .i64 NU,.string c.data,.int .i64 TA] 125 (0,0)) from hw3▸heap_alloc_new _ _)
   rw [← hw3]
   obtain ⟨V3,hV3⟩:∃ V,wd.heap.size=V:=⟨_,rfl⟩
   rw [hV3] at NB3 ⊢
   clear hw3 hV3
   have HH3:=S3 _ (WCB.out _ b3)
   refine hK.out _ _ HH3 (fun hHeld3=>?_)
   clear hK Kx HH3
   refine wpAnyH_ready (rs:=[26]) (by kernel_rfl) (by simp) ?_
   refine AllReadyH.cons (o:=_) rfl (fun Kx hK=>?_) AllReadyH.nil
   refine step_append_lies _ (by rfl) _ _ _ (by rfl) w0.heap.size 125 i0 _ 6 56 Tryz.underlying71 hi hz0 hz1 hz2 rfl (by omega) (.slice m.fa L m.fc) L xs (by rfl) (OMB.out _ b3) ⟨V3,0,none⟩ 1 1 _ (by rfl) (by rfl) (World.news_of_block NB3.out) (ONE.out) (by omega) (by unfold maxLen; omega) (by omega) (by have:=(b3).size; have:=LO1.out; omega) _ rfl ?_
   intro g cap w4_ own gr hat hlt
   have FW4:=FCG.out _ _ b3 gr
   obtain ⟨kd4,fd4⟩:=FW4
   have HH4:=S3 _ (WCG.out _ _ b3 gr)
   refine hK.out _ _ HH4 (fun hHeld4=>?_)
   clear hK Kx HH4
   go_simp
   refine wt 27 (.pointer (some ⟨T,0,none⟩)) hHeld4 ?_
   go_simp
   refine wt 28 (.pointer (some ⟨T,86,none⟩)) hHeld4 ?_
   go_simp
   refine wpAnyH_ready (rs:=[29]) (by kernel_rfl) (by simp) ?_
   refine AllReadyH.cons (o:=_) rfl (fun Kx hK=>?_) AllReadyH.nil
   go_simp
   have HH5:=S3 _ (WCS.out _ (S4 _ hHeld4) (.slice (some ⟨g,0,none⟩) (L+1) cap))
   have FIN:=Lib.hid (PUSH.out _ _ g cap own b3 gr hat hlt)
   refine hK.out _ _ HH5 (fun hHeld5=>?_)
   clear hK Kx HH5
   refine wpAnyH_done (by kernel_rfl) ?_ _
   clear own gr hat hlt kd4 fd4
   go_wp2
   go_roundw
   case rel=>exact ⟨k+1,by omega,by go_num,FIN.out.1,FIN.out.2⟩
   case measure=>simp [intOf]; omega
  ·go_simp
   refine (EPO.out _ bd).mono ?_
   rintro e w6_ ⟨rfl,hq⟩
   replace hq:=hq.symm
   subst hq
   have HH6:=hHeld
   refine hK.out _ _ HH6 (fun hHeld6=>?_)
   clear hK Kx HH6
   refine wt 19 (.agg #[.int .i64 EP,.int .i64 NU,.string c.data]) hHeld6 ?_
   go_simp
   refine wt 24 (.agg #[.int .i64 (k:Int),.int .i64 c.at',.int .i64 EP,.int .i64 NU,.string c.data,.int .i64 TA]) hHeld6 ?_
   go_simp
   refine wpAnyH_ready (rs:=[4,25]) (by kernel_rfl) (by simp) ?_
   refine AllReadyH.cons (o:=_) rfl (fun Kx hK=>?_) (AllReadyH.cons (o:=_) rfl (fun Kx hK=>?_) AllReadyH.nil)
   ·have hc4:=TC.out wd bd
    go_simp
    clear hc4
    have HH7:=hHeld6
    refine hK.out _ _ HH7 (fun hHeld7=>?_)
    clear hK Kx HH7
    refine wpAnyH_ready (rs:=[25]) (by kernel_rfl) (by simp) ?_
    refine AllReadyH.cons (o:=_) rfl (fun Kx hK=>?_) AllReadyH.nil
    go_simp
    obtain ⟨w8_,hw8⟩:∃ x,x=wd.alloc (.cells #[.int .i64 (k:Int),.int .i64 c.at',.int .i64 EP,.int .i64 NU,.string c.data,.int .i64 TA] 125):=⟨_,rfl⟩
    have b8:RowKit.Below wr.heap.size wr w8_:=hw8▸RowKit.Below.alloc bd (bd).size _
    have NB8:=Lib.hid (show w8_.heap[wd.heap.size]?=some (.cells #[.int .i64 (k:Int),.int .i64 c.at',.int .i64 EP,.int .i64 NU,.string c.data,.int .i64 TA] 125 (0,0)) from hw8▸heap_alloc_new _ _)
    rw [← hw8]
    obtain ⟨V8,hV8⟩:∃ V,wd.heap.size=V:=⟨_,rfl⟩
    rw [hV8] at NB8 ⊢
    clear hw8 hV8
    have HH8:=S3 _ (WCB.out _ b8)
    refine hK.out _ _ HH8 (fun hHeld8=>?_)
    clear hK Kx HH8
    refine wpAnyH_ready (rs:=[26]) (by kernel_rfl) (by simp) ?_
    refine AllReadyH.cons (o:=_) rfl (fun Kx hK=>?_) AllReadyH.nil
    refine step_append_lies _ (by rfl) _ _ _ (by rfl) w0.heap.size 125 i0 _ 6 56 Tryz.underlying71 hi hz0 hz1 hz2 rfl (by omega) (.slice m.fa L m.fc) L xs (by rfl) (OMB.out _ b8) ⟨V8,0,none⟩ 1 1 _ (by rfl) (by rfl) (World.news_of_block NB8.out) (ONE.out) (by omega) (by unfold maxLen; omega) (by omega) (by have:=(b8).size; have:=LO1.out; omega) _ rfl ?_
    intro g cap w9_ own gr hat hlt
    have FW9:=FCG.out _ _ b8 gr
    obtain ⟨kd9,fd9⟩:=FW9
    have HH9:=S3 _ (WCG.out _ _ b8 gr)
    refine hK.out _ _ HH9 (fun hHeld9=>?_)
    clear hK Kx HH9
    go_simp
    refine wt 27 (.pointer (some ⟨T,0,none⟩)) hHeld9 ?_
    go_simp
    refine wt 28 (.pointer (some ⟨T,86,none⟩)) hHeld9 ?_
    go_simp
    refine wpAnyH_ready (rs:=[29]) (by kernel_rfl) (by simp) ?_
    refine AllReadyH.cons (o:=_) rfl (fun Kx hK=>?_) AllReadyH.nil
    go_simp
    have HH10:=S3 _ (WCS.out _ (S4 _ hHeld9) (.slice (some ⟨g,0,none⟩) (L+1) cap))
    have FIN:=Lib.hid (PUSH.out _ _ g cap own b8 gr hat hlt)
    refine hK.out _ _ HH10 (fun hHeld10=>?_)
    clear hK Kx HH10
    refine wpAnyH_done (by kernel_rfl) ?_ _
    clear own gr hat hlt kd9 fd9
    go_wp2
    go_roundw
    case rel=>exact ⟨k+1,by omega,by go_num,FIN.out.1,FIN.out.2⟩
    case measure=>simp [intOf]; omega
   ·go_simp
    obtain ⟨w11_,hw11⟩:∃ x,x=wd.alloc (.cells #[.int .i64 (k:Int),.int .i64 c.at',.int .i64 EP,.int .i64 NU,.string c.data,.int .i64 TA] 125):=⟨_,rfl⟩
    have b11:RowKit.Below wr.heap.size wr w11_:=hw11▸RowKit.Below.alloc bd (bd).size _
    have NB11:=Lib.hid (show w11_.heap[wd.heap.size]?=some (.cells #[.int .i64 (k:Int),.int .i64 c.at',.int .i64 EP,.int .i64 NU,.string c.data,.int .i64 TA] 125 (0,0)) from hw11▸heap_alloc_new _ _)
    rw [← hw11]
    obtain ⟨V11,hV11⟩:∃ V,wd.heap.size=V:=⟨_,rfl⟩
    rw [hV11] at NB11 ⊢
    clear hw11 hV11
    have HH11:=S3 _ (WCB.out _ b11)
    refine hK.out _ _ HH11 (fun hHeld11=>?_)
    clear hK Kx HH11
    refine wpAnyH_ready (rs:=[4]) (by kernel_rfl) (by simp) ?_
    refine AllReadyH.cons (o:=_) rfl (fun Kx hK=>?_) AllReadyH.nil
    have hc4:=TC.out w11_ b11
    go_simp
    clear hc4
    have HH12:=hHeld11
    refine hK.out _ _ HH12 (fun hHeld12=>?_)
    clear hK Kx HH12
    refine wpAnyH_ready (rs:=[26]) (by kernel_rfl) (by simp) ?_
    refine AllReadyH.cons (o:=_) rfl (fun Kx hK=>?_) AllReadyH.nil
    refine step_append_lies _ (by rfl) _ _ _ (by rfl) w0.heap.size 125 i0 _ 6 56 Tryz.underlying71 hi hz0 hz1 hz2 rfl (by omega) (.slice m.fa L m.fc) L xs (by rfl) (OMB.out _ b11) ⟨V11,0,none⟩ 1 1 _ (by rfl) (by rfl) (World.news_of_block NB11.out) (ONE.out) (by omega) (by unfold maxLen; omega) (by omega) (by have:=(b11).size; have:=LO1.out; omega) _ rfl ?_
    intro g cap w13_ own gr hat hlt
    have FW13:=FCG.out _ _ b11 gr
    obtain ⟨kd13,fd13⟩:=FW13
    have HH13:=S3 _ (WCG.out _ _ b11 gr)
    refine hK.out _ _ HH13 (fun hHeld13=>?_)
    clear hK Kx HH13
    go_simp
    refine wt 27 (.pointer (some ⟨T,0,none⟩)) hHeld13 ?_
    go_simp
    refine wt 28 (.pointer (some ⟨T,86,none⟩)) hHeld13 ?_
    go_simp
    refine wpAnyH_ready (rs:=[29]) (by kernel_rfl) (by simp) ?_
    refine AllReadyH.cons (o:=_) rfl (fun Kx hK=>?_) AllReadyH.nil
    go_simp
    have HH14:=S3 _ (WCS.out _ (S4 _ hHeld13) (.slice (some ⟨g,0,none⟩) (L+1) cap))
    have FIN:=Lib.hid (PUSH.out _ _ g cap own b11 gr hat hlt)
    refine hK.out _ _ HH14 (fun hHeld14=>?_)
    clear hK Kx HH14
    refine wpAnyH_done (by kernel_rfl) ?_ _
    clear own gr hat hlt kd13 fd13
    go_wp2
    go_roundw
    case rel=>exact ⟨k+1,by omega,by go_num,FIN.out.1,FIN.out.2⟩
    case measure=>simp [intOf]; omega
 ·have h3:k=3:=by omega
  subst h3
  have BLT:=ki.lt
  obtain ⟨UO,hU1,hU2⟩:=run_update_int (P:=Tryz.prog) (w:=wr.drew.alloc (.map #[] 0)) Tryz.underlying108 Tryz.underlying3 (tb.wait.move (Below.heap_alloc wr.drew (.map #[] 0) m.W tb.wait.lt)) TA (.agg #[.int .i64 c.who,.int .i64 NU,.map (some wr.heap.size)])
  have UPD:=Lib.hid hU1
  have hput:putI (waitL (t.w3 c 3).wait m.hm) TA (.agg #[.int .i64 c.who,.int .i64 NU,.map (some wr.heap.size)])=waitL (t.w3 c 3).wait m.hm ++ [(TA,.agg #[.int .i64 c.who,.int .i64 NU,.map (some wr.heap.size)])]:=by
   unfold putI
   rw [findI_none TA _ 0 (fun p hp e=>by
    obtain ⟨x,hx,e2⟩:=waitL_keys _ _ p hp
    have:=HW.out.wt x hx
    have:=HTA.out
    omega)]
  rw [hput] at hU2
  obtain ⟨tb2,kp2⟩:=tb.addWait BLT ⟨TA,c.who,NU,[]⟩ rfl UO hU2
  have FIN:=Lib.hid (show Ending.returned (.tuple #[.int .i64 TA,.nilIface])=.returned (.tuple #[.int .i64 TA,errV 0])∧TgR w0 n D T { t with num:=NU,tag:=TA,fly:=t.fly ++ [t.msg c 0,t.msg c 1,t.msg c 2],wait:=t.wait ++ [⟨TA,c.who,NU,[]⟩] } Y (setO (wr.drew.alloc (.map #[] 0)) m.W UO)∧Same Y w (setO (wr.drew.alloc (.map #[] 0)) m.W UO) from by
   refine ⟨by rw [errV_nil],?_,fun b hb=>(kp2.block b (fun e=>(hy b (ZY.out b hb)).2 (.inr (.inl e))) (BLT b (hy b (ZY.out b hb)).1)).trans ((HS.out b (ZY.out b hb)).trans (SY1.out b hb))⟩
   have e1:({ t with num:=NU,tag:=TA,fly:=t.fly ++ [t.msg c 0,t.msg c 1,t.msg c 2],wait:=t.wait ++ [⟨TA,c.who,NU,[]⟩] }:Tg)={ t.w3 c 3 with wait:=(t.w3 c 3).wait ++ [⟨TA,c.who,NU,[]⟩] }:=by
    unfold Tg.w3
    rw [← HNU.out,← HTA.out]
    rfl
   rw [e1]
   refine ⟨_,{ m with hm:=m.hm ++ [wr.heap.size] },ki.wide (kp2.mono (fun b e=>e▸tb.xw)) lo,tb2,fun b e=>?_,fun b e=>⟨.inl (hy b (ZY.out b e)).1,fun ho=>?_⟩⟩
   ·rcases e with e | e
    ·exact lo b e
    ·exact Nat.le_trans ki.below.size e.1
   ·have hb:=hy b (ZY.out b e)
    rcases ho with ho | ho | ho | ho | ho
    ·exact hb.2 (.inl ho)
    ·exact hb.2 (.inr (.inl ho))
    ·exact hb.2 (.inr (.inr (.inl ho)))
    ·rcases List.mem_append.1 ho with ho | ho
     ·exact hb.2 (.inr (.inr (.inr (.inl ho))))
     ·have:=BLT b hb.1
      have:b=wr.heap.size:=List.mem_singleton.1 ho
      omega
    ·exact hb.2 (.inr (.inr (.inr (.inr ho)))))
  have hW:∀ b cs ty fr,wr.heap[b]?=some (.cells cs ty fr)→b≠m.W:=fun b cs ty fr hc e=>by
   subst e
   obtain ⟨es,cl,h1,_⟩:=tb.wait
   rw [h1] at hc; cases hc
  have WCB:=Lib.hid (show ∀ w',RowKit.Below wr.heap.size wr w'→WC T m.K w.heap.size NU TA c w'∧w'.cell? ⟨T,85,none⟩=some (.map (some m.W)) from fun w' b=>⟨WCB0.out w' b,(b.cell (p:=⟨T,85,none⟩) hT).trans (tg_cells tb.blk tb.ok).1.2.2.2.2.2.2.2.1⟩)
  have WCU:=Lib.hid (show WC T m.K w.heap.size NU TA c (setO (wr.drew.alloc (.map #[] 0)) m.W UO)∧(setO (wr.drew.alloc (.map #[] 0)) m.W UO).cell? ⟨T,85,none⟩=some (.map (some m.W)) from by
   have q1:=kp2.block T (hW T _ _ _ tb.blk) hT
   have q2:=kp2.block w.heap.size (hW _ _ _ _ ((HS.out _ ZA.out).trans R1.out)) hA
   exact ⟨WC0.out.blocks q1 q2,(World.cell?_of_block (a:=⟨T,85,none⟩) q1).trans (tg_cells tb.blk tb.ok).1.2.2.2.2.2.2.2.1⟩)
  clear ki tb lo hy HR HS WC0 WCB0 hU1 hU2 hput tb2 kp2 BLT hW EPO HF hk hlt
  go_upto_region 10 with fail
  obtain ⟨S,hS⟩:∃ S:World→Prop,S=fun w'=>WC T m.K w.heap.size NU TA c w'∧w'.cell? ⟨T,85,none⟩=some (.map (some m.W)):=⟨_,rfl⟩
  have S3:∀ w',WC T m.K w.heap.size NU TA c w'∧w'.cell? ⟨T,85,none⟩=some (.map (some m.W))→S w':=fun w' h=>by rw [hS]; exact h
  have S4:∀ w',S w'→WC T m.K w.heap.size NU TA c w'∧w'.cell? ⟨T,85,none⟩=some (.map (some m.W)):=fun w' h=>by rw [hS] at h; exact h
  clear hS
  refine wp_region_held_drew (S:=S) (by kernel_rfl) (S3 _ (WCB.out _ (Below.refl _ _).drew)) (fun hHeld=>?_)
  obtain ⟨wd,hwd⟩:∃ wd,wd=wr.drew:=⟨_,rfl⟩
  rw [← hwd] at hHeld ⊢
  have bd:RowKit.Below wr.heap.size wr wd:=hwd▸(Below.refl _ _).drew
  have HWD:=Lib.hid hwd
  clear hwd
  refine wt 0 (.pointer (some ⟨T,0,none⟩)) hHeld ?_
  go_simp
  refine wt 1 (.pointer (some ⟨T,0,none⟩)) hHeld ?_
  go_simp
  refine wt 2 (.pointer (some ⟨T,85,none⟩)) hHeld ?_
  go_simp
  refine wt 3 (.map (some m.W)) hHeld ?_ (hy:=Or.inl ⟨by rfl,fun w' hSw=>by have hc:=S4 _ hSw; obtain ⟨⟨q0,q3,q4,q1,q5,q7⟩,qw⟩:=hc; go_simp⟩)
  go_simp
  refine wt 4 (.pointer (some ⟨T,0,none⟩)) hHeld ?_
  go_simp
  refine wt 5 (.pointer (some ⟨T,0,none⟩)) hHeld ?_
  go_simp
  refine wt 6 (.pointer (some ⟨T,84,none⟩)) hHeld ?_
  go_simp
  refine wt 7 (.int .i64 TA) hHeld ?_ (hy:=Or.inl ⟨by rfl,fun w' hSw=>by have hc:=S4 _ hSw; obtain ⟨⟨q0,q3,q4,q1,q5,q7⟩,qw⟩:=hc; go_simp⟩)
  go_simp
  refine wt 8 (.pointer (some ⟨w.heap.size,1,none⟩)) hHeld ?_
  go_simp
  refine wt 9 (.int .i64 c.who) hHeld ?_ (hy:=Or.inl ⟨by rfl,fun w' hSw=>by have hc:=S4 _ hSw; obtain ⟨⟨q0,q3,q4,q1,q5,q7⟩,qw⟩:=hc; go_simp⟩)
  go_simp
  refine wt 10 (.pointer (some ⟨T,0,none⟩)) hHeld ?_
  go_simp
  refine wt 11 (.pointer (some ⟨T,0,none⟩)) hHeld ?_
  go_simp
  refine wt 12 (.pointer (some ⟨T,83,none⟩)) hHeld ?_
  go_simp
  refine wt 13 (.int .i64 NU) hHeld ?_ (hy:=Or.inl ⟨by rfl,fun w' hSw=>by have hc:=S4 _ hSw; obtain ⟨⟨q0,q3,q4,q1,q5,q7⟩,qw⟩:=hc; go_simp⟩)
  go_simp
  refine wpAnyH_ready (rs:=[14]) (by kernel_rfl) (by simp) ?_
  refine AllReadyH.cons (o:=_) rfl (fun Kx hK=>?_) AllReadyH.nil
  go_simp
  obtain ⟨w1_,hw1⟩:∃ x,x=wd.alloc (.map #[] 0):=⟨_,rfl⟩
  have b1:RowKit.Below wr.heap.size wr w1_:=hw1▸RowKit.Below.alloc bd (bd).size _
  have HZ1:=Lib.hid (show wd.heap.size=wr.heap.size from by rw [HWD.out]; rfl)
  have HW1:=Lib.hid (show w1_=wr.drew.alloc (.map #[] 0) from by rw [hw1,HWD.out])
  rw [← hw1]
  rw [HZ1.out]
  clear hw1
  have HH1:=S3 _ (WCB.out _ b1)
  refine hK.out _ _ HH1 (fun hHeld1=>?_)
  clear hK Kx HH1
  refine wt 15 (.agg #[.int .i64 c.who,.int .i64 NU,.map (some wr.heap.size)]) hHeld1 ?_
  go_simp
  refine wpAnyH_ready (rs:=[16]) (by kernel_rfl) (by simp) ?_
  refine AllReadyH.cons (o:=_) rfl (fun Kx hK=>?_) AllReadyH.nil
  rw [HW1.out]
  refine step_upd (by rfl) _ _ _ _ (by rfl) (setO (wr.drew.alloc (.map #[] 0)) m.W UO) (by simp [Act.eval]; exact UPD.out) ?_
  have HH2:=S3 _ (WCU.out)
  refine hK.out _ _ HH2 (fun hHeld2=>?_)
  clear hK Kx HH2
  simp only [Act.put,getElem_toArray,getElem_cons_zero,getElem_cons_succ]
  refine wpAnyH_done (by kernel_rfl) ?_ _
  have qq:=S4 _ hHeld2
  obtain ⟨⟨q0,q3,q4,q1,q5,q7⟩,qw⟩:=qq
  obtain ⟨wz,hwz⟩:∃ x,x=setO (wr.drew.alloc (.map #[] 0)) m.W UO:=⟨_,rfl⟩
  rw [← hwz] at q4 FIN ⊢
  clear q0 q3 q1 q5 q7 qw hwz hHeld2
  go_wp2
  exact bodyPost_ret (v:=.tuple #[.int .i64 TA,.nilIface]) (by simp [results,Tryz.results61,go_sem]) rfl FIN.out
end
end Go.Proofs.YtajegiifabfcjaaGreatDoor
