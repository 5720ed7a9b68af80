import Derived.Test.YtajegiifabfcjaaGreatDoorQ19
import Derived.Test.YtajegiifabfcjaaGreatDoorQ34
import Derived.Test.YtajegiifabfcjaaGreatDoorQ35
import Derived.Test.YtajegiifabfcjaaGreatDoorQ33
namespace Go.Proofs.YtajegiifabfcjaaGreatDoor
open Go.RowKit
theorem Sz.keep {n:Nat} {k:Kp} (h:Sz k.d) (ep:Int) (s:St):Sz (k.keep n ep s).1.d:=by
 unfold Kp.keep
 split
 ·exact h
 split
 ·exact h
 ·unfold Kp.lay
  dsimp only
  split
  ·exact h.lay
  ·exact h.lay
section
variable {n:Nat} {t:Tg}
theorem sz_tkeep (h:Sz t.k.d) (ep:Int) (s:St):Sz (t.keep n ep s).1.k.d:=by
 unfold Tg.keep
 exact h.keep ep s
theorem sz_next (h:Sz t.k.d) (s:St):Sz (t.next n s).1.k.d:=by
 have hr:Sz t.ready.k.d:=h
 unfold Tg.next
 split
 ·exact hr
 split
 ·exact hr
 split
 ·exact sz_tkeep hr _ _
 ·have h2:Sz (t.ready.keep n (t.k.ep+1) t.k.s).1.fresh.k.d:=sz_tkeep hr (t.k.ep+1) t.k.s
  dsimp only
  split
  ·exact h2
  ·exact sz_tkeep (t:=(t.ready.keep n (t.k.ep+1) t.k.s).1.fresh.ready) h2 _ _
theorem sz_order (h:Sz t.k.d) (c:Cmd):Sz (t.order n c).1.k.d:=by
 unfold Tg.order
 split
 ·exact h
 ·have h2:Sz (if lessB pmay t.k.s (pdo t.k.s c).1 then t.next n (pdo t.k.s c).1 else t.keep n t.k.ep (pdo t.k.s c).1).1.k.d:=by
   split
   ·exact sz_next h _
   ·exact sz_tkeep h _ _
  generalize (if lessB pmay t.k.s (pdo t.k.s c).1 then t.next n (pdo t.k.s c).1 else t.keep n t.k.ep (pdo t.k.s c).1)=x at h2 ⊢
  dsimp only
  split
  ·exact h2
  ·exact h2
theorem read_k (t:Tg) (k:Nat):(t.read k).1.k=t.k:=by unfold Tg.read; split <;> rfl
theorem write_k (t:Tg) (c:Cmd):(t.write c).1.k=t.k:=by unfold Tg.write; split <;> rfl
theorem doWrite_k (t:Tg) (c:Cmd):(t.doWrite c).1.k=t.k:=write_k t c
theorem doComp_k (t:Tg) (c:Cmd):(t.doComp c).1.k=t.k:=by
 unfold Tg.doComp
 dsimp only
 split
 ·exact read_k t _
 ·exact (doWrite_k _ c).trans (read_k t _)
theorem sz_ask (h:Sz t.k.d) (c:Cmd):Sz (t.ask n c).1.k.d:=by
 unfold Tg.ask
 split
 ·exact h
 split
 ·exact h
 split
 ·exact sz_order h c
 split
 ·exact h
 split
 ·dsimp only; rw [read_k]; exact h
 split
 ·exact h
 split
 ·rw [doComp_k]; exact h
 ·rw [doWrite_k]; exact h
theorem sz_deliver (h:Sz t.k.d) (i:Int) (b:Bool):Sz (t.deliver i b).1.k.d:=by
 unfold Tg.deliver
 split
 ·exact h
 dsimp only
 split
 ·rw [(came_same _ _).1]; exact h
 ·exact h
theorem sz_power (h:Sz t.k.d):Sz (t.power n).1.k.d:=by
 have h2:=sz_next (n:=n) h t.k.s.lost
 unfold Tg.power
 dsimp only
 split
 ·exact h2
 ·exact h2
theorem sz_anew (h:Sz t.k.d):Sz (t.anew n).k.d:=by
 unfold Tg.anew
 split
 ·exact sz_next (t:=Tg.start t.k t.g) h _
 ·exact h
theorem sz_play (h:Sz t.k.d) (x:Ac):Sz (t.play n x).k.d:=by
 unfold Tg.play
 split
 ·exact sz_ask h _
 split
 ·exact sz_deliver h _ _
 split
 ·unfold Tg.lose; split <;> exact h
 split
 ·unfold Tg.up; split <;> exact h
 split
 ·unfold Tg.sync; split
  ·exact h
  ·split <;> exact h
 split
 ·exact sz_power h
 ·exact sz_anew h
end
structure TJ (n:Nat) (S:Cel→Prop) (B:Int) (t:Tg):Prop where
 ti:TI n S B t
 sz:Sz t.k.d
section
variable {n:Nat} {S:Cel→Prop} {B:Int} {t:Tg}
theorem TJ.kg (h:TJ n S B t):KG n t.k:=⟨h.ti.kd,h.sz⟩
theorem TJ.mono (h:TJ n S B t) {C:Int} (hB:B≤C):TJ n S C t:=⟨h.ti.mono hB,h.sz⟩
theorem TJ.ask (h:TJ n S B t) (hB:B+2<1000000000000000) (c:Cmd):∃ S',(∀ x,S x→S' x)∧TJ n S' (B+2) (t.ask n c).1:=by
 obtain ⟨S',i,h'⟩:=h.ti.ask hB c
 exact ⟨S',i,h',sz_ask h.sz c⟩
theorem TJ.play (h:TJ n S B t) (hB:B+2<1000000000000000) (x:Ac):∃ S',(∀ x,S x→S' x)∧TJ n S' (B+2) (t.play n x):=by
 obtain ⟨S',i,h'⟩:=h.ti.play hB x
 exact ⟨S',i,h',sz_play h.sz x⟩
theorem TJ.deliver (h:TJ n S B t) (i:Int) (b:Bool):TJ n S B (t.deliver i b).1:=⟨h.ti.deliver i b,sz_deliver h.sz i b⟩
theorem told_who {s:St} (g:Good s) {c:Cmd} (hc:CmdOk c):∀ x∈(pdo s c).2.1,1≤x.1∧x.1≤4:=by
 by_cases hz:(pdo s c).2.2=0
 ·have f:=do_told g (r:=(pdo s c).1) (lt:=(pdo s c).2.1) (by rw [← hz]) hc.op.1
  intro x hx
  have h2:=(f.mem x hx).2
  obtain ⟨r,hr,e,-⟩:=keyOf_mem x.1 s.regs h2
  have:=g.bounds r hr
  omega
 ·intro x hx
  exfalso
  unfold pdo at hx hz
  split at hx
  ·simp at hx
  ·rw [if_neg (by assumption)] at hz
   split at hx
   ·simp at hx
   ·rw [if_neg (by assumption)] at hz
    split at hx
    ·simp at hx
    ·rw [if_neg (by assumption)] at hz
     apply hz
     split <;> rfl
end
end Go.Proofs.YtajegiifabfcjaaGreatDoor
namespace Go.Proofs.YtajegiifabfcjaaGreatDoor
open List (getElem_toArray getElem_cons_zero getElem_cons_succ setIfInBounds_toArray set_cons_zero set_cons_succ)
open Go.Lib (hid)
open Go.RowKit Go.Sort
theorem cells4 {W:World} {b:Nat} {v0 v1 v2 v3:Value} {T:TypeId} (h:W.heap[b]?=some (.cells #[v0,v1,v2,v3] T (0,0))) :
  (W.cell? ⟨b,0,none⟩=some v0∧W.cell? ⟨b,1,none⟩=some v1∧W.cell? ⟨b,2,none⟩=some v2∧W.cell? ⟨b,3,none⟩=some v3)∧(W.frozen? ⟨b,0,none⟩=false∧W.frozen? ⟨b,1,none⟩=false∧W.frozen? ⟨b,2,none⟩=false∧W.frozen? ⟨b,3,none⟩=false):=by
 simp [World.cell?,World.frozen?,h]
theorem cells9 {W:World} {b:Nat} {v0 v1 v2 v3 v4 v5 v6 v7 v8:Value} {T:TypeId} (h:W.heap[b]?=some (.cells #[v0,v1,v2,v3,v4,v5,v6,v7,v8] T (0,0))):W.cell? ⟨b,0,none⟩=some v0∧W.cell? ⟨b,1,none⟩=some v1∧W.cell? ⟨b,2,none⟩=some v2∧W.cell? ⟨b,3,none⟩=some v3∧W.cell? ⟨b,4,none⟩=some v4∧W.cell? ⟨b,5,none⟩=some v5∧W.cell? ⟨b,6,none⟩=some v6∧W.cell? ⟨b,7,none⟩=some v7∧W.cell? ⟨b,8,none⟩=some v8:=by
 simp [World.cell?,h]
theorem ba_list {a b:ByteArray}:a.toList=b.toList ↔ a=b:=by
 rw [ByteArray.toList_eq,ByteArray.toList_eq]
 constructor
 ·intro h
  cases a; cases b
  exact congrArg ByteArray.mk (Array.toList_inj.1 h)
 ·rintro rfl; rfl
def four (w:World) (T:Nat) (v0 v1 v2 v3:Value):World:=(((w.setCell ⟨T,0,none⟩ v0).setCell ⟨T,1,none⟩ v1).setCell ⟨T,2,none⟩ v2).setCell ⟨T,3,none⟩ v3
theorem four_at {wx:World} {T:Nat} {x0 x1 x2 x3:Value} {Ty:TypeId} (h:wx.heap[T]?=some (.cells #[x0,x1,x2,x3] Ty (0,0))) (v0 v1 v2 v3:Value):(four wx T v0 v1 v2 v3).heap[T]?=some (.cells #[v0,v1,v2,v3] Ty (0,0)):=by
 exact one_setCell (one_setCell (one_setCell (one_setCell h v0) v1) v2) v3
theorem four_keeps (w:World) (T:Nat) (v0 v1 v2 v3:Value):Keeps (·=T) w (four w T v0 v1 v2 v3) :=
 ((((Keeps.refl (·=T) w).setCell (p:=⟨T,0,none⟩) rfl _).setCell (p:=⟨T,1,none⟩) rfl _).setCell (p:=⟨T,2,none⟩) rfl _).setCell (p:=⟨T,3,none⟩) rfl _
theorem hi_at {B:Nat} {w:World} {a:Option Addr} {l:List Int} (h:HiI B w a l) {b o:Nat} (e:a=some ⟨b,o,none⟩) (hne:l≠[]):B≤b∧b<w.heap.size:=by
 cases l with
 | nil=>exact absurd rfl hne
 | cons x l =>
  obtain ⟨b',o',e',h1,h2,-⟩:=h 0 (by simp)
  rw [e] at e'
  simp only [Option.some.injEq,Addr.mk.injEq] at e'
  obtain ⟨rfl,-,-⟩:=e'
  exact ⟨h1,h2⟩
theorem HiI.below {B:Nat} {w w':World} {a:Option Addr} {l:List Int} (h:HiI B w a l) (b:Below w.heap.size w w'):HiI B w' a l:=by
 intro i hi
 obtain ⟨c,o,e,h1,h2,h3⟩:=h i hi
 exact ⟨c,o,e,h1,Nat.lt_of_lt_of_le h2 b.size,(b.cell (p:=⟨c,o+i,none⟩) h2).trans h3⟩
theorem HiI.keepsU {B U:Nat} {w w':World} {a:Option Addr} {l:List Int} (h:HiI B w a l) (k:Keeps (·=U) w w') (nv:∀ b o,a=some ⟨b,o,none⟩→l≠[]→b≠U):HiI B w' a l:=by
 intro i hi
 obtain ⟨c,o,e,h1,h2,h3⟩:=h i hi
 have hne:l≠[]:=fun q=>by rw [q] at hi; simp at hi
 exact ⟨c,o,e,h1,Nat.lt_of_lt_of_le h2 k.size,(k.cell (nv c o e hne) h2).trans h3⟩
def ACut (w2:World) (b:Bx) (who:Int) (U:Nat) (wx:World):Prop :=
 ∃ s:Sl,wx.heap[U]?=some (.cells #[(b.set who s).s1.v,(b.set who s).s2.v,(b.set who s).s3.v,(b.set who s).s4.v] 104 (0,0))∧s.ok wx∧s.l=(b.get who).l.tail∧HiI w2.heap.size wx s.a s.l∧w2.heap.size≤U∧Below w2.heap.size w2 wx
theorem acut_fin {w2 wd:World} {b:Bx} {who:Int} {U:Nat} {x0 x1 x2 x3:Value} {s:Sl} (bl:Below w2.heap.size w2 wd) (hU:w2.heap.size≤U) (hv:wd.heap[U]?=some (.cells #[x0,x1,x2,x3] 104 (0,0))) (ok:s.ok wd) (hl:s.l=(b.get who).l.tail)
  (hh:HiI w2.heap.size wd s.a s.l) (nv:∀ b o,s.a=some ⟨b,o,none⟩→s.l≠[]→b≠U) :
  ACut w2 b who U (four wd U (b.set who s).s1.v (b.set who s).s2.v (b.set who s).s3.v (b.set who s).s4.v)∧Below w2.heap.size w2 (four wd U (b.set who s).s1.v (b.set who s).s2.v (b.set who s).s3.v (b.set who s).s4.v):=by
 have kp:=four_keeps wd U (b.set who s).s1.v (b.set who s).s2.v (b.set who s).s3.v (b.set who s).s4.v
 have hb:Below w2.heap.size w2 (four wd U (b.set who s).s1.v (b.set who s).s2.v (b.set who s).s3.v (b.set who s).s4.v):=bl.trans (kp.below bl.size (fun c e=>by rw [e]; exact hU))
 have hh':=hh.keepsU kp nv
 exact ⟨⟨s,four_at hv _ _ _ _,⟨hh'.ints,ok.len,ok.cap⟩,hl,hh',hU,hb⟩,hb⟩
section
variable (w0 w:World) (n D T:Nat) (t:Tg) (Y:Nat→Prop) (S:Cel→Prop) (B:Int)
set_option maxRecDepth 100000 in
set_option maxHeartbeats 40000000 in
theorem task_anyA (c:Cmd) (h:TgR w0 n D T t Y w) (hn:TgN n t) (hj:6<c.op→TJ n S B t) (hB:B+2<1000000000000000) (hs:c.data.size≤9223372036854775807∧c.want.size≤9223372036854775807) (tt:Tabs w0) :
  Calls Tryz.prog 22 #[.pointer (some ⟨T,0,none⟩),cmdV c] w fun e w'=>e=.returned (.tuple #[.string (t.ask n c).2.data,.int .i64 (t.ask n c).2.tag,.int .i64 (t.ask n c).2.what,errV (t.ask n c).2.err])∧TgR w0 n D T (t.ask n c).1 Y w'∧Same Y w w':=by
 have HJ0:=hid hj
 have HBB:=hid hB
 have TT:=hid tt
 have HS:=hid hs
 have GD:=hid (show Good t.k.s from hn.kg.kd.place.k.g)
 have NB:=hid hn
 obtain ⟨w1,hw1⟩:∃ w1,w1=w.alloc (.cells #[.int .i64 c.op,.int .i64 c.who,.int .i64 c.key,.int .i64 c.new,.int .i64 c.typ,.int .i64 c.at',.bool c.stays,.string c.data,.string c.want] 37):=⟨_,rfl⟩
 have B1:=hid (show RowKit.Below w.heap.size w w1 from hw1▸bal w _)
 have R1:=hid (show w1.heap[w.heap.size]?=some (.cells #[.int .i64 c.op,.int .i64 c.who,.int .i64 c.key,.int .i64 c.new,.int .i64 c.typ,.int .i64 c.at',.bool c.stays,.string c.data,.string c.want] 37 (0,0)) from hw1▸heap_alloc_new w _)
 have HA:=(Array.getElem?_eq_some_iff.1 R1.out).1
 have SY1:=hid (show Same Y w w1 from fun b hb=>B1.out.block b (h.lt_y b hb))
 obtain ⟨Z,hZ⟩:∃ Z:Nat→Prop,Z=fun c=>Y c∨(w.heap.size≤c∧c<w1.heap.size):=⟨_,rfl⟩
 have H1:=hid (show TgR w0 n D T t Z w1 from hZ▸h.more B1.out)
 have ZY:=hid (show ∀ b,Y b→Z b from fun b hb=>hZ▸Or.inl hb)
 have ZA:=hid (show Z w.heap.size from hZ▸Or.inr ⟨Nat.le_refl _,HA⟩)
 clear h hj hB hs tt hZ hn
 obtain ⟨R,hR⟩:∃ R,t.ask n c=R:=⟨_,rfl⟩
 have HR:=hid hR.symm
 rw [hR]
 clear hR
 have CK:=hid (ccheck_any c w1 HS.out)
 obtain ⟨q0,q1,q2,q3,q4,q5,q6,q7,q8⟩:=cells9 R1.out
 go_enter Tryz.func22,Tryz.ntmps22
 go_upto_region 1 with fail
 rw [← hw1]
 clear hw1
 go_wp2_with fail
 refine CK.out.mono ?_
 rintro e w2 ⟨rfl,b2⟩
 have H2:=hid (H1.out.over b2)
 have SY2:=hid (show Same Y w w2 from SY1.out.trans (fun b hb=>b2.block b (H1.out.lt_y b (ZY.out b hb))))
 have R2:=hid ((b2.block _ HA).trans R1.out)
 obtain ⟨A,hA⟩:∃ A,w.heap.size=A:=⟨_,rfl⟩
 rw [hA] at R2 ZA ⊢
 clear b2 CK q0 q1 q2 q3 q4 q5 q6 q7 q8 B1 R1 HA SY1 H1 hA
 by_cases hf:cmdFault c=0
 case neg =>
  have E:=hid (show R=(t,Ans.bad (cmdFault c)) from HR.out.trans (by unfold Tg.ask; rw [if_pos hf]))
  rw [errV_some hf]
  have HF:=hid hf
  clear hf
  go_wp2
  exact bodyPost_ret (v:=.tuple #[.string ⟨#[]⟩,.int .i64 0,.int .i64 0,.iface 95 (.int .i64 (cmdFault c))]) (by simp [results,Tryz.results22,go_sem]) rfl (by rw [E.out]; exact ⟨by unfold Ans.bad; rw [errV_some HF.out],H2.out.less ZY.out,SY2.out⟩)
 rw [hf,errV_nil]
 obtain ⟨hc,hat,-⟩:=fault_zero hf
 have HC:=hid hc
 have HAT:=hid hat
 have HF:=hid hf
 clear hf hc hat
 have TKE:=hid (show takeN (t.b.get c.who)=takeN (t.b.get c.who) from rfl)
 obtain ⟨TN,hTN⟩:∃ TN,takeN (t.b.get c.who)=TN:=⟨_,rfl⟩
 have HTN:=hid hTN
 obtain ⟨X,m,ki,tb,lo,hy⟩:=H2.out
 have hT:=(Array.getElem?_eq_some_iff.1 tb.blk).1
 have hAl:=(Array.getElem?_eq_some_iff.1 R2.out).1
 have SC:=hid (fun w' (b:RowKit.Below w2.heap.size w2 w')=>(b.cell (p:=⟨T,0,none⟩) hT).trans (tg_cells tb.blk tb.ok).1.1)
 have CB:=hid (fun w' (b:RowKit.Below w2.heap.size w2 w')=>cells9 ((b.block A hAl).trans R2.out))
 have STA:=hid (fun w' (b:RowKit.Below w2.heap.size w2 w')=>stateI3 n w0 w' X D m.K t.k (ki.over b) (by have:=GD.out.regs_len; omega))
 have BTS:=hid (show ∀ w',RowKit.Below w2.heap.size w2 w'→(w'.cell? ⟨T,79,none⟩=some m.b.s1.v∧w'.cell? ⟨T,80,none⟩=some m.b.s2.v∧w'.cell? ⟨T,81,none⟩=some m.b.s3.v∧w'.cell? ⟨T,82,none⟩=some m.b.s4.v)∧w'.frozen? ⟨T,79,none⟩=false∧w'.frozen? ⟨T,80,none⟩=false∧w'.frozen? ⟨T,81,none⟩=false∧w'.frozen? ⟨T,82,none⟩=false from fun w' b=>by
  obtain ⟨⟨-,y1,y2,y3,y4,-⟩,-,z1,z2,z3,z4,-⟩:=tg_cells ((b.block T hT).trans tb.blk) tb.ok
  exact ⟨⟨y1,y2,y3,y4⟩,z1,z2,z3,z4⟩)
 obtain ⟨b0,hb0⟩:∃ b0,m.b=b0:=⟨_,rfl⟩
 have L0:=hid (show (b0.get c.who).l=t.b.get c.who from hb0▸(tb.box c.who).eq)
 have BX4:=hid (fun w' b=>(BTS.out w' b).1)
 have TAKE:=hid (show ∀ w',RowKit.Below w2.heap.size w2 w'→Calls Tryz.prog 54 #[.agg #[b0.s1.v,b0.s2.v,b0.s3.v,b0.s4.v],.int .i64 c.who] w' fun e w''=>∃ s:Sl,e=.returned (.tuple #[.agg #[(b0.set c.who s).s1.v,(b0.set c.who s).s2.v,(b0.set c.who s).s3.v,(b0.set c.who s).s4.v],.int .i64 TN])∧s.ok w''∧s.l=(b0.get c.who).l.tail∧RowKit.Below w'.heap.size w' w''∧HiI w'.heap.size w'' s.a s.l from fun w' b=>by
  have q:=take_any2 b0 c.who w' (hb0▸tb.boxOk.below b) HC.out.who
  unfold TakePost2 at q
  rw [L0.out,hTN] at q
  rw [L0.out]
  exact q)
 have PUTB:=hid (show ∀ w',RowKit.Below w2.heap.size w2 w'→∀ s:Sl,s.ok w'→s.l=(b0.get c.who).l.tail→HiI w2.heap.size w' s.a s.l→TgR w0 n D T { t with b:=t.b.set c.who (t.b.get c.who).tail } Z (set4W w' T (b0.set c.who s))∧Same Z w2 (set4W w' T (b0.set c.who s)) from fun w' b s ok hl hh=>by
  have q:=TgR.setBox1 ki tb lo hy b HC.out.who s ok (.inr hh)
  rw [hl,L0.out,hb0] at q
  exact ⟨q.1,q.2.1⟩)
 rw [hb0] at BX4
 have TBS:=hid (show ∀ w',RowKit.Below w2.heap.size w2 w'→(w'.cell? ⟨T,79,none⟩=some b0.s1.v∧w'.cell? ⟨T,80,none⟩=some b0.s2.v∧w'.cell? ⟨T,81,none⟩=some b0.s3.v∧w'.cell? ⟨T,82,none⟩=some b0.s4.v)∧w'.frozen? ⟨T,79,none⟩=false∧w'.frozen? ⟨T,80,none⟩=false∧w'.frozen? ⟨T,81,none⟩=false∧w'.frozen? ⟨T,82,none⟩=false from hb0▸BTS.out)
 clear ki tb lo hy hTN hb0 BTS TKE
 go_upto_region 4 with fail
 go_cut [8,9] (fun v8 v9 wx=>∃ U,v8=.pointer (some ⟨U,0,none⟩)∧v9=.int .i64 TN∧ACut w2 b0 c.who U wx)
 case first =>
  obtain ⟨S,hS⟩:∃ S:World→Prop,S=fun w'=>RowKit.Below w2.heap.size w2 w':=⟨_,rfl⟩
  have S3:∀ w',RowKit.Below w2.heap.size w2 w'→S w':=fun w' h=>by rw [hS]; exact h
  have S4:∀ w',S w'→RowKit.Below w2.heap.size w2 w':=fun w' h=>by rw [hS] at h; exact h
  clear hS
  refine wp_region_held_drew (S:=S) (by kernel_rfl) (S3 _ (Below.refl _ _).drew) (fun hHeld=>?_)
  obtain ⟨wd,hwd⟩:∃ wd,wd=w2.drew:=⟨_,rfl⟩
  rw [← hwd] at hHeld ⊢
  clear hwd
  refine wt 0 (.pointer (some ⟨T,0,none⟩)) hHeld ?_
  go_simp
  refine wt 1 (.pointer (some ⟨T,0,none⟩)) hHeld ?_
  go_simp
  refine wt 2 (.pointer (some ⟨T,79,none⟩)) hHeld ?_
  go_simp
  refine wt 3 (.agg #[b0.s1.v,b0.s2.v,b0.s3.v,b0.s4.v]) hHeld ?_ (hy:=Or.inl ⟨by rfl,fun w' hSw=>by obtain ⟨y1,y2,y3,y4⟩:=BX4.out w' (S4 w' hSw); go_simp⟩)
  go_simp
  refine wt 4 (.pointer (some ⟨A,1,none⟩)) hHeld ?_
  go_simp
  refine wt 5 (.int .i64 c.who) hHeld ?_ (hy:=Or.inl ⟨by rfl,fun w' hSw=>by obtain ⟨q0,q1,q2,q3,q4,q5,q6,q7,q8⟩:=CB.out w' (S4 w' hSw); go_simp⟩)
  go_simp
  refine wpAnyH_ready (rs:=[6,10]) (by kernel_rfl) (by simp) ?_
  refine AllReadyH.cons (o:=_) rfl (fun Kx hK=>?_) (AllReadyH.cons (o:=_) rfl (fun Kx hK=>?_) AllReadyH.nil)
  ·go_simp
   refine (TAKE.out _ (S4 _ hHeld)).mono ?_
   rintro e w1_ ⟨s1,rfl,ho1,hl1,b1,hh1⟩
   have OK1:=hid ho1
   have HL1:=hid hl1
   have HI1:=hid (hh1.mono (S4 _ hHeld).size)
   have HH1:=S3 _ ((S4 _ hHeld).trans (b1.mono (S4 _ hHeld).size))
   clear ho1 hl1 hh1 b1
   refine hK.out _ _ HH1 (fun hHeld1=>?_)
   clear hK Kx HH1
   refine wt 7 (.tuple #[.agg #[(b0.set c.who s1).s1.v,(b0.set c.who s1).s2.v,(b0.set c.who s1).s3.v,(b0.set c.who s1).s4.v],.int .i64 TN]) hHeld1 ?_
   go_simp
   refine wt 8 (.agg #[(b0.set c.who s1).s1.v,(b0.set c.who s1).s2.v,(b0.set c.who s1).s3.v,(b0.set c.who s1).s4.v]) hHeld1 ?_
   go_simp
   refine wt 9 (.int .i64 TN) hHeld1 ?_
   go_simp
   refine wpAnyH_ready (rs:=[10]) (by kernel_rfl) (by simp) ?_
   refine AllReadyH.cons (o:=_) rfl (fun Kx hK=>?_) AllReadyH.nil
   go_simp
   obtain ⟨w2_,hw2⟩:∃ x,x=w1_.alloc (.cells #[.slice none 0 0,.slice none 0 0,.slice none 0 0,.slice none 0 0] 104):=⟨_,rfl⟩
   have HV2:=hid (show w2_.heap[w1_.heap.size]?=some (.cells #[.slice none 0 0,.slice none 0 0,.slice none 0 0,.slice none 0 0] 104 (0,0)) from hw2▸heap_alloc_new _ _)
   have b2:RowKit.Below w1_.heap.size w1_ w2_:=hw2▸bal _ _
   have LO2:w2.heap.size≤w1_.heap.size:=(S4 _ hHeld1).size
   have HH2:=S3 _ ((S4 _ hHeld1).trans (b2.mono (S4 _ hHeld1).size))
   rw [← hw2]
   have OK2:=hid (Sl.ok.below OK1.out b2)
   have HI2:=hid (HiI.below HI1.out b2)
   have NV2:=hid (show ∀ b o,s1.a=some ⟨b,o,none⟩→s1.l≠[]→b≠w1_.heap.size from fun b o q hne=>by have:=hi_at HI1.out q hne; omega)
   obtain ⟨V2,hV2⟩:∃ V,w1_.heap.size=V:=⟨_,rfl⟩
   rw [hV2] at HV2 LO2 NV2 ⊢
   clear hw2 hV2 b2
   refine hK.out _ _ HH2 (fun hHeld2=>?_)
   clear hK Kx HH2
   refine wpAnyH_ready (rs:=[11]) (by kernel_rfl) (by simp) ?_
   refine AllReadyH.cons (o:=_) rfl (fun Kx hK=>?_) AllReadyH.nil
   obtain ⟨⟨y0,y1,y2,y3⟩,z0,z1,z2,z3⟩:=cells4 HV2.out
   go_simp
   clear y0 y1 y2 y3 z0 z1 z2 z3
   have AC3:=hid (acut_fin (b:=b0) (who:=c.who) (S4 _ hHeld2) LO2 HV2.out OK2.out HL1.out HI2.out NV2.out)
   have HH3:=S3 _ AC3.out.2
   refine hK.out _ _ HH3 (fun hHeld3=>?_)
   clear hK Kx HH3
   refine wpAnyH_ready (rs:=[12]) (by kernel_rfl) (by simp) ?_
   refine AllReadyH.cons (o:=_) rfl (fun Kx hK=>?_) AllReadyH.nil
   go_simp
   have HH4:=hHeld3
   refine hK.out _ _ HH4 (fun hHeld4=>?_)
   clear hK Kx HH4
   refine wpAnyH_done (by kernel_rfl) ?_ _
   go_wp2_with fail
   go_meet
   exact ⟨V2,rfl,rfl,AC3.out.1⟩
  ·go_simp
   obtain ⟨w5_,hw5⟩:∃ x,x=wd.alloc (.cells #[.slice none 0 0,.slice none 0 0,.slice none 0 0,.slice none 0 0] 104):=⟨_,rfl⟩
   have HV5:=hid (show w5_.heap[wd.heap.size]?=some (.cells #[.slice none 0 0,.slice none 0 0,.slice none 0 0,.slice none 0 0] 104 (0,0)) from hw5▸heap_alloc_new _ _)
   have b5:RowKit.Below wd.heap.size wd w5_:=hw5▸bal _ _
   have LO5:w2.heap.size≤wd.heap.size:=(S4 _ hHeld).size
   have HH5:=S3 _ ((S4 _ hHeld).trans (b5.mono (S4 _ hHeld).size))
   rw [← hw5]
   obtain ⟨V5,hV5⟩:∃ V,wd.heap.size=V:=⟨_,rfl⟩
   rw [hV5] at HV5 LO5 ⊢
   clear hw5 hV5 b5
   refine hK.out _ _ HH5 (fun hHeld5=>?_)
   clear hK Kx HH5
   refine wpAnyH_ready (rs:=[6]) (by kernel_rfl) (by simp) ?_
   refine AllReadyH.cons (o:=_) rfl (fun Kx hK=>?_) AllReadyH.nil
   go_simp
   refine (TAKE.out _ (S4 _ hHeld5)).mono ?_
   rintro e w6_ ⟨s6,rfl,ho6,hl6,b6,hh6⟩
   have OK6:=hid ho6
   have HL6:=hid hl6
   have HI6:=hid (hh6.mono (S4 _ hHeld5).size)
   have NV6:=hid (show ∀ b o,s6.a=some ⟨b,o,none⟩→s6.l≠[]→b≠V5 from fun b o q hne=>by have:=hi_at hh6 q hne; have:=(Array.getElem?_eq_some_iff.1 HV5.out).1; omega)
   have HV6:=hid ((b6.block _ (Array.getElem?_eq_some_iff.1 HV5.out).1).trans HV5.out)
   have HH6:=S3 _ ((S4 _ hHeld5).trans (b6.mono (S4 _ hHeld5).size))
   clear ho6 hl6 hh6 b6
   refine hK.out _ _ HH6 (fun hHeld6=>?_)
   clear hK Kx HH6
   refine wt 7 (.tuple #[.agg #[(b0.set c.who s6).s1.v,(b0.set c.who s6).s2.v,(b0.set c.who s6).s3.v,(b0.set c.who s6).s4.v],.int .i64 TN]) hHeld6 ?_
   go_simp
   refine wt 8 (.agg #[(b0.set c.who s6).s1.v,(b0.set c.who s6).s2.v,(b0.set c.who s6).s3.v,(b0.set c.who s6).s4.v]) hHeld6 ?_
   go_simp
   refine wt 9 (.int .i64 TN) hHeld6 ?_
   go_simp
   refine wpAnyH_ready (rs:=[11]) (by kernel_rfl) (by simp) ?_
   refine AllReadyH.cons (o:=_) rfl (fun Kx hK=>?_) AllReadyH.nil
   obtain ⟨⟨y0,y1,y2,y3⟩,z0,z1,z2,z3⟩:=cells4 HV6.out
   go_simp
   clear y0 y1 y2 y3 z0 z1 z2 z3
   have AC7:=hid (acut_fin (b:=b0) (who:=c.who) (S4 _ hHeld6) LO5 HV6.out OK6.out HL6.out HI6.out NV6.out)
   have HH7:=S3 _ AC7.out.2
   refine hK.out _ _ HH7 (fun hHeld7=>?_)
   clear hK Kx HH7
   refine wpAnyH_ready (rs:=[12]) (by kernel_rfl) (by simp) ?_
   refine AllReadyH.cons (o:=_) rfl (fun Kx hK=>?_) AllReadyH.nil
   go_simp
   have HH8:=hHeld7
   refine hK.out _ _ HH8 (fun hHeld8=>?_)
   clear hK Kx HH8
   refine wpAnyH_done (by kernel_rfl) ?_ _
   go_wp2_with fail
   go_meet
   exact ⟨V5,rfl,rfl,AC7.out.1⟩
 case rest =>
 obtain ⟨w3,rfl⟩:∃ w2:World,w2=wc:=⟨_,rfl⟩
 obtain ⟨U,rfl,rfl,s,hU,ok,hl,hh,hlo,hb⟩:=hcut
 have B3:=hid hb
 have HU:=hid hU
 have PUT:=hid (PUTB.out w3 hb s ok hl hh)
 clear hU ok hl hh hb PUTB TAKE
 by_cases htn:0<TN
 ·have E:=hid (show R=({ t with b:=t.b.set c.who (t.b.get c.who).tail },⟨⟨#[]⟩,0,TN,0⟩) from HR.out.trans (by
   unfold Tg.ask
   rw [if_neg (by rw [HF.out]; decide),if_pos (by rw [HTN.out]; exact htn),HTN.out]))
  have Q:=PUT.out
  unfold set4W at Q
  have Q2:=hid Q
  obtain ⟨⟨y0,y1,y2,y3⟩,z0,z1,z2,z3⟩:=cells4 HU.out
  obtain ⟨⟨x1,x2,x3,x4⟩,u1,u2,u3,u4⟩:=TBS.out w3 B3.out
  clear Q PUT TBS SC CB STA BX4
  go_wp2
  exact bodyPost_ret (v:=.tuple #[.string ⟨#[]⟩,.int .i64 0,.int .i64 TN,.nilIface]) (by simp [results,Tryz.results22,go_sem]) rfl (by rw [E.out]; exact ⟨by rw [errV_nil],Q2.out.1.less ZY.out,SY2.out.trans (fun b hb=>Q2.out.2 b (ZY.out b hb))⟩)
 have HTN0:=hid (show ¬ 0<takeN (t.b.get c.who) from by rw [HTN.out]; exact htn)
 have H3:=hid (H2.out.over B3.out)
 have R3:=hid ((B3.out.block A hAl).trans R2.out)
 have SY3:=hid (show Same Y w w3 from SY2.out.trans (fun b hb=>B3.out.block b (H2.out.lt_y b (ZY.out b hb))))
 obtain ⟨d0,d1,d2,d3,d4,d5,d6,d7,d8⟩:=CB.out w3 B3.out
 clear PUT TBS BX4
 by_cases hop:c.op≤6
 ·have E:=hid (show R=((t.order n c).1,Ans.bad (t.order n c).2) from HR.out.trans (by
   unfold Tg.ask
   rw [if_neg (by rw [HF.out]; decide),if_neg HTN0.out,if_pos hop]))
  have ORD:=hid (torder_any w0 w3 n D T t Z c H3.out NB.out HC.out (told_who GD.out HC.out) TT.out)
  clear SC CB STA
  go_wp2_with fail
  refine ORD.out.mono ?_
  rintro e w4 ⟨rfl,h4,sm4⟩
  have P:=hid (show TgR w0 n D T (t.order n c).1 Y w4∧Same Y w w4 from ⟨h4.less ZY.out,SY3.out.trans (fun b hb=>sm4 b (ZY.out b hb))⟩)
  clear h4 sm4 ORD
  go_wp2
  exact bodyPost_ret (v:=.tuple #[.string ⟨#[]⟩,.int .i64 0,.int .i64 0,errV (t.order n c).2]) (by simp [results,Tryz.results22,go_sem]) rfl (by rw [E.out]; exact ⟨rfl,P.out.1,P.out.2⟩)
 have HOP:=hid (show ¬ c.op≤6 from hop)
 have HJ:=hid (HJ0.out (by omega))
 obtain ⟨NR,hNR⟩:∃ NR,decide (c.op≠7)=NR:=⟨_,rfl⟩
 obtain ⟨MB,hMB⟩:∃ MB,pmay t.k.s c.who NR=MB:=⟨_,rfl⟩
 have HNR:=hid hNR
 have HMB:=hid hMB
 have MAY:=hid (show ∀ w' x y,StR w' t.k.s x→Calls Tryz.prog 32 #[stV t.k.s x y,.int .i64 c.who,.bool NR] w' fun e w''=>e=.returned (.bool MB)∧RowKit.Below w'.heap.size w' w'' from fun w' x y h=>by
  have q:=may_any t.k.s x y c.who NR w' h
  rw [hMB] at q
  exact q)
 have hNR2:(c.op != 7)=NR:=by rw [← hNR]; by_cases h:c.op=7 <;> simp [h]
 clear hMB hNR
 go_upto_region 10 with fail
 go_cut [51] (fun v wx=>v=.bool (!MB)∧RowKit.Below w2.heap.size w2 wx)
 case first =>
   obtain ⟨S,hS⟩:∃ S:World→Prop,S=fun w'=>RowKit.Below w2.heap.size w2 w':=⟨_,rfl⟩
   have S3:∀ w',RowKit.Below w2.heap.size w2 w'→S w':=fun w' h=>by rw [hS]; exact h
   have S4:∀ w',S w'→RowKit.Below w2.heap.size w2 w':=fun w' h=>by rw [hS] at h; exact h
   clear hS
   refine wp_region_held_drew (S:=S) (by kernel_rfl) (S3 _ B3.out.drew) (fun hHeld=>?_)
   obtain ⟨wd,hwd⟩:∃ wd,wd=w3.drew:=⟨_,rfl⟩
   rw [← hwd] at hHeld ⊢
   clear hwd
   refine wt 0 (.pointer (some ⟨T,0,none⟩)) hHeld ?_
   go_simp
   refine wt 1 (.pointer (some ⟨T,0,none⟩)) hHeld ?_
   go_simp
   refine wt 2 (.pointer (some ⟨T,0,none⟩)) hHeld ?_
   go_simp
   refine wt 3 (.pointer (some ⟨m.K,0,none⟩)) hHeld ?_ (hy:=Or.inl ⟨by rfl,fun w' hSw=>by have hc:=SC.out w' (S4 w' hSw); go_simp⟩)
   go_simp
   refine wt 5 (.pointer (some ⟨A,1,none⟩)) hHeld ?_
   go_simp
   refine wt 6 (.int .i64 c.who) hHeld ?_ (hy:=Or.inl ⟨by rfl,fun w' hSw=>by obtain ⟨q0,q1,q2,q3,q4,q5,q6,q7,q8⟩:=CB.out w' (S4 w' hSw); go_simp⟩)
   go_simp
   refine wt 7 (.pointer (some ⟨A,0,none⟩)) hHeld ?_
   go_simp
   refine wt 8 (.int .i64 c.op) hHeld ?_ (hy:=Or.inl ⟨by rfl,fun w' hSw=>by obtain ⟨q0,q1,q2,q3,q4,q5,q6,q7,q8⟩:=CB.out w' (S4 w' hSw); go_simp⟩)
   go_simp
   refine wt 9 (.bool NR) hHeld ?_
   go_simp
   refine wpAnyH_ready (rs:=[4]) (by kernel_rfl) (by simp) ?_
   refine AllReadyH.cons (o:=_) rfl (fun Kx hK=>?_) AllReadyH.nil
   go_simp
   refine (STA.out _ (S4 _ hHeld)).mono ?_
   rintro e w1_ ⟨x1,y1,rfl,hs1,b1,fr1⟩
   have HS1:=hid hs1
   have HH1:=S3 _ ((S4 _ hHeld).trans (b1.mono (S4 _ hHeld).size))
   clear hs1 b1 fr1
   refine hK.out _ _ HH1 (fun hHeld1=>?_)
   clear hK Kx HH1
   refine wpAnyH_ready (rs:=[10]) (by kernel_rfl) (by simp) ?_
   refine AllReadyH.cons (o:=_) rfl (fun Kx hK=>?_) AllReadyH.nil
   go_simp
   refine (MAY.out _ _ _ HS1.out).mono ?_
   rintro e w2_ ⟨rfl,b2⟩
   have HH2:=S3 _ ((S4 _ hHeld1).trans (b2.mono (S4 _ hHeld1).size))
   clear b2
   refine hK.out _ _ HH2 (fun hHeld2=>?_)
   clear hK Kx HH2
   refine wt 11 (.bool (!MB)) hHeld2 ?_
   simp only [Act.put,getElem_toArray,getElem_cons_zero,getElem_cons_succ,setIfInBounds_toArray,set_cons_zero,set_cons_succ]
   refine wpAnyH_done (by kernel_rfl) ?_ _
   go_wp2_with fail
   go_meet
   exact ⟨rfl,S4 _ hHeld2⟩
 case rest =>
 obtain ⟨w4,rfl⟩:∃ w2:World,w2=wc:=⟨_,rfl⟩
 obtain ⟨rfl,hb⟩:=hcut
 have H4:=hid (H2.out.over hb)
 have R4:=hid ((hb.block A hAl).trans R2.out)
 have SY4:=hid (show Same Y w w4 from SY2.out.trans (fun b hb2=>hb.block b (H2.out.lt_y b (ZY.out b hb2))))
 clear hb B3 HU H3 R3 SY3 d0 d1 d2 d3 d4 d5 d6 d7 d8 SC CB STA MAY hNR2 H2 R2 SY2 hAl hT
 cases MB
 ·have E:=hid (show R=(t,Ans.bad 4) from HR.out.trans (by
   unfold Tg.ask
   rw [if_neg (by rw [HF.out]; decide),if_neg HTN0.out,if_neg HOP.out,if_pos (by rw [HNR.out,HMB.out])]))
  go_wp2
  exact bodyPost_ret (v:=.tuple #[.string ⟨#[]⟩,.int .i64 0,.int .i64 0,.iface 95 (.int .i64 4)]) (by simp [results,Tryz.results22,go_sem]) rfl (by rw [E.out]; exact ⟨rfl,H4.out.less ZY.out,SY4.out⟩)
 have MAYT:=hid (show ¬ pmay t.k.s c.who (decide (c.op≠7))=false from by rw [HNR.out,HMB.out]; decide)
 have KAT:=hid (show ((c.at'.toNat:Nat):Int)=c.at'∧c.at'.toNat<8 from by have:=HAT.out (by have:=HOP.out; omega); omega)
 have READ:=hid (show ∀ w',TgR w0 n D T t Z w'→Calls Tryz.prog 57 #[.pointer (some ⟨T,0,none⟩),.int .i64 c.at'] w' fun e w''=>e=.returned (.tuple #[.string (t.read c.at'.toNat).2.1,errV (t.read c.at'.toNat).2.2])∧TgR w0 n D T (t.read c.at'.toNat).1 Z w''∧Same Z w' w'' from fun w' h=>by
  have q:=tread_any w0 w' n D T t Z c.at'.toNat KAT.out.2 h (by have:=HJ.out.ti.e1; omega) HJ.out.ti.qi.ok
  rw [KAT.out.1] at q
  exact q.mono fun e w'' ⟨h1,h2⟩=>⟨h1,h2.1,h2.2.1⟩)
 obtain ⟨rd,hrd⟩:∃ rd,t.read c.at'.toNat=rd:=⟨_,rfl⟩
 rw [hrd] at READ
 obtain ⟨d0,d1,d2,d3,d4,d5,d6,d7,d8⟩:=cells9 R4.out
 by_cases h7:c.op=7
 ·have E:=hid (show R=(rd.1,⟨rd.2.1,0,0,rd.2.2⟩) from HR.out.trans (by
   unfold Tg.ask
   rw [if_neg (by rw [HF.out]; decide),if_neg HTN0.out,if_neg HOP.out,if_neg MAYT.out,if_pos h7,hrd]))
  have READ4:=hid (READ.out w4 H4.out)
  clear READ hrd
  go_wp2_with fail
  refine READ4.out.mono ?_
  rintro e w5 ⟨rfl,h5,sm5⟩
  dsimp only
  have P:=hid (show TgR w0 n D T rd.1 Y w5∧Same Y w w5 from ⟨h5.less ZY.out,SY4.out.trans (fun b hb=>sm5 b (ZY.out b hb))⟩)
  clear h5 sm5 READ4
  go_wp2
  exact bodyPost_ret (v:=.tuple #[.string rd.2.1,.int .i64 0,.int .i64 0,errV rd.2.2]) (by simp [results,Tryz.results22,go_sem]) rfl (by rw [E.out]; exact ⟨rfl,P.out.1,P.out.2⟩)
 have RDY:=hid (show Calls Tryz.prog 58 #[.pointer (some ⟨T,0,none⟩)] w4 fun e w'=>e=.returned (errV (if t.isReady then 0 else 7))∧TgR w0 n D T t Z w'∧Same Z w4 w' from by
  have q:=ready_any w0 w4 n D T t Z H4.out (by have:=HJ.out.ti.e1; omega) (Gp.fence_ok HJ.out.ti.qi.ok _)
  rw [HJ.out.ti.ready] at q
  exact q.mono fun e w'' ⟨h1,h2,h3⟩=>⟨h1,h2,H4.out.same_y h3⟩)
 have ASK:=hid (show R=if t.isReady=false then (t,Ans.bad 7) else if c.op=9 then t.doComp c else t.doWrite c from HR.out.trans (by
   unfold Tg.ask
   rw [if_neg (by rw [HF.out]; decide),if_neg HTN0.out,if_neg HOP.out,if_neg MAYT.out,if_neg h7,HJ.out.ti.ready]))
 have HRD:=hid hrd
 clear hrd
 go_wp2_with fail
 refine RDY.out.mono ?_
 rintro e w5 ⟨rfl,h5,sm5⟩
 have H5:=hid h5
 have SY5:=hid (show Same Y w w5 from SY4.out.trans (fun b hb=>sm5 b (ZY.out b hb)))
 have R5:=hid ((sm5 A ZA.out).trans R4.out)
 clear h5 sm5 RDY d0 d1 d2 d3 d4 d5 d6 d7 d8 R4 H4 SY4
 obtain ⟨d0,d1,d2,d3,d4,d5,d6,d7,d8⟩:=cells9 R5.out
 rw [errV_bool]
 cases hir:t.isReady
 ·have E:=hid (show R=(t,Ans.bad 7) from ASK.out.trans (if_pos hir))
  clear hir
  rw [if_neg (by decide)]
  go_wp2
  exact bodyPost_ret (v:=.tuple #[.string ⟨#[]⟩,.int .i64 0,.int .i64 0,.iface 95 (.int .i64 7)]) (by simp [results,Tryz.results22,go_sem]) rfl (by rw [E.out]; exact ⟨rfl,H5.out.less ZY.out,SY5.out⟩)
 rw [if_pos rfl]
 have ASK2:=hid (ASK.out.trans (if_neg (by rw [hir]; decide)))
 have MM:=hid (show 2≤(t.g.mem t.k.ep).length from by
  have:=HJ.out.ti.isReady
  rw [hir] at this
  exact of_decide_eq_true this.symm)
 clear hir ASK
 have WRITE:=hid (show ∀ u w',TI n S B u→TgR w0 n D T u Z w'→Calls Tryz.prog 61 #[.pointer (some ⟨T,0,none⟩),cmdV c] w' fun e w''=>e=.returned (.tuple #[.int .i64 (u.write c).2.1,errV (u.write c).2.2])∧TgR w0 n D T (u.write c).1 Z w''∧Same Z w' w'' from fun u w' hu h =>
  twrite_any w0 w' n D T u Z c h ⟨by have:=hu.n0; have:=HBB.out; omega,by have:=hu.t0; have:=HBB.out; omega,by have:=hu.fl; omega,fun x hx=>(hu.wt x hx).2.1⟩)
 by_cases h9:c.op=9
 case neg =>
  have E:=hid (show R=((t.write c).1,⟨⟨#[]⟩,(t.write c).2.1,0,(t.write c).2.2⟩) from ASK2.out.trans (if_neg h9))
  have WR:=hid (WRITE.out t w5 HJ.out.ti H5.out)
  clear READ WRITE
  go_wp2_with fail
  refine WR.out.mono ?_
  rintro e w6 ⟨rfl,h6,sm6⟩
  dsimp only
  have P:=hid (show TgR w0 n D T (t.write c).1 Y w6∧Same Y w w6 from ⟨h6.less ZY.out,SY5.out.trans (fun b hb=>sm6 b (ZY.out b hb))⟩)
  clear h6 sm6 WR
  go_wp2
  exact bodyPost_ret (v:=.tuple #[.string ⟨#[]⟩,.int .i64 (t.write c).2.1,.int .i64 0,errV (t.write c).2.2]) (by simp [results,Tryz.results22,go_sem]) rfl (by rw [E.out]; exact ⟨rfl,P.out.1,P.out.2⟩)
 have TIR:=hid (show TI n S B rd.1 from HRD.out▸HJ.out.ti.read _)
 have RDE:=hid (show rd.2.2=0 from by rw [← HRD.out,(tread_live HJ.out.ti _).2 MM.out])
 have COMP:=hid (show R=if rd.2.2≠0∨rd.2.1≠c.want∨rd.1.busy c.at'=true then (rd.1,Ans.bad (rd.1.refuse rd.2.2 c.at')) else rd.1.doWrite c from ASK2.out.trans (by
  rw [if_pos h9]
  unfold Tg.doComp
  rw [HRD.out]))
 have READ5:=hid (READ.out w5 H5.out)
 clear READ
 rw [RDE.out,errV_nil] at READ5
 go_wp2_with fail
 refine READ5.out.mono ?_
 rintro e w6 ⟨rfl,h6,sm6⟩
 dsimp only
 have H6:=hid h6
 have SY6:=hid (show Same Y w w6 from SY5.out.trans (fun b hb=>sm6 b (ZY.out b hb)))
 have R6:=hid ((sm6 A ZA.out).trans R5.out)
 clear h9 h6 sm6 READ5 d0 d1 d2 d3 d4 d5 d6 d7 d8 R5 H5 SY5
 obtain ⟨d0,d1,d2,d3,d4,d5,d6,d7,d8⟩:=cells9 R6.out
 have BUSY:=hid (tbusy_any w0 w6 n D T rd.1 Z c.at' H6.out (by have:=TIR.out.fl; omega))
 have REF:=hid (fun w' (h:TgR w0 n D T rd.1 Z w')=>trefuse_any w0 w' n D T rd.1 Z 0 c.at' h (by have:=TIR.out.fl; omega))
 rw [errV_nil] at REF
 obtain ⟨BS,hBS⟩:∃ BS,rd.1.busy c.at'=BS:=⟨_,rfl⟩
 have HBS:=hid hBS
 rw [hBS] at BUSY
 clear hBS
 by_cases hw:rd.2.1=c.want
 case neg =>
  have E:=hid (show R=(rd.1,Ans.bad (rd.1.refuse 0 c.at')) from COMP.out.trans (by rw [if_pos (.inr (.inl hw)),RDE.out]))
  have hwl:¬ rd.2.1.toList=c.want.toList:=fun h=>hw (ba_list.1 h)
  clear hw
  have REF6:=hid (REF.out w6 H6.out)
  clear REF BUSY WRITE
  go_wp2_with fail
  refine REF6.out.mono ?_
  rintro e w7 ⟨rfl,b7⟩
  have P:=hid (show TgR w0 n D T rd.1 Y w7∧Same Y w w7 from ⟨(H6.out.over b7).less ZY.out,SY6.out.trans (fun b hb=>b7.block b (H6.out.lt_y b (ZY.out b hb)))⟩)
  clear b7 REF6
  go_wp2
  exact bodyPost_ret (v:=.tuple #[.string ⟨#[]⟩,.int .i64 0,.int .i64 0,errV (rd.1.refuse 0 c.at')]) (by simp [results,Tryz.results22,go_sem]) rfl (by rw [E.out]; exact ⟨rfl,P.out.1,P.out.2⟩)
 have hwl:rd.2.1.toList=c.want.toList:=ba_list.2 hw
 have HW:=hid hw
 clear hw
 go_wp2_with fail
 refine BUSY.out.mono ?_
 rintro e w7 ⟨rfl,b7⟩
 have H7:=hid (H6.out.over b7)
 have SY7:=hid (show Same Y w w7 from SY6.out.trans (fun b hb=>b7.block b (H6.out.lt_y b (ZY.out b hb))))
 have R7:=hid ((b7.block A (H6.out.lt_y A ZA.out)).trans R6.out)
 clear b7 BUSY d0 d1 d2 d3 d4 d5 d6 d7 d8 R6 H6 SY6
 obtain ⟨d0,d1,d2,d3,d4,d5,d6,d7,d8⟩:=cells9 R7.out
 cases BS
 ·have E:=hid (show R=((rd.1.write c).1,⟨⟨#[]⟩,(rd.1.write c).2.1,0,(rd.1.write c).2.2⟩) from by
   rw [COMP.out,if_neg (show ¬ (rd.2.2≠0∨rd.2.1≠c.want∨rd.1.busy c.at'=true) from fun h=>by
    rcases h with h | h | h
    ·exact h RDE.out
    ·exact h HW.out
    ·rw [HBS.out] at h; cases h)]
   unfold Tg.doWrite
   rfl)
  have WR:=hid (WRITE.out rd.1 w7 TIR.out H7.out)
  clear REF WRITE
  go_wp2_with fail
  refine WR.out.mono ?_
  rintro e w8 ⟨rfl,h8,sm8⟩
  dsimp only
  have P:=hid (show TgR w0 n D T (rd.1.write c).1 Y w8∧Same Y w w8 from ⟨h8.less ZY.out,SY7.out.trans (fun b hb=>sm8 b (ZY.out b hb))⟩)
  clear h8 sm8 WR
  go_wp2
  exact bodyPost_ret (v:=.tuple #[.string ⟨#[]⟩,.int .i64 (rd.1.write c).2.1,.int .i64 0,errV (rd.1.write c).2.2]) (by simp [results,Tryz.results22,go_sem]) rfl (by rw [E.out]; exact ⟨rfl,P.out.1,P.out.2⟩)
 ·have E:=hid (show R=(rd.1,Ans.bad (rd.1.refuse 0 c.at')) from COMP.out.trans (by rw [if_pos (.inr (.inr HBS.out)),RDE.out]))
  have REF7:=hid (REF.out w7 H7.out)
  clear REF WRITE
  go_wp2_with fail
  refine REF7.out.mono ?_
  rintro e w8 ⟨rfl,b8⟩
  have P:=hid (show TgR w0 n D T rd.1 Y w8∧Same Y w w8 from ⟨(H7.out.over b8).less ZY.out,SY7.out.trans (fun b hb=>b8.block b (H7.out.lt_y b (ZY.out b hb)))⟩)
  clear b8 REF7
  go_wp2
  exact bodyPost_ret (v:=.tuple #[.string ⟨#[]⟩,.int .i64 0,.int .i64 0,errV (rd.1.refuse 0 c.at')]) (by simp [results,Tryz.results22,go_sem]) rfl (by rw [E.out]; exact ⟨rfl,P.out.1,P.out.2⟩)
theorem task_any (c:Cmd) (h:TgR w0 n D T t Y w) (hj:TJ n S B t) (hB:B+2<1000000000000000) (hs:c.data.size≤9223372036854775807∧c.want.size≤9223372036854775807) (tt:Tabs w0) :
  Calls Tryz.prog 22 #[.pointer (some ⟨T,0,none⟩),cmdV c] w fun e w'=>e=.returned (.tuple #[.string (t.ask n c).2.data,.int .i64 (t.ask n c).2.tag,.int .i64 (t.ask n c).2.what,errV (t.ask n c).2.err])∧TgR w0 n D T (t.ask n c).1 Y w'∧Same Y w w' :=
 task_anyA w0 w n D T t Y S B c h ⟨hj.kg,hj.ti.qi.ok,by have:=hj.ti.kb; omega⟩ (fun _=>hj) hB hs tt
end
end Go.Proofs.YtajegiifabfcjaaGreatDoor
namespace Go.Proofs.YtajegiifabfcjaaGreatDoor
open Go.RowKit Go.Sort
open Go.Lib (hid)
theorem KI.base {n:Nat} {v w wx:World} {X:Nat→Prop} {D K:Nat} {k:Kp} (h:KI n w X D K k wx) (b:Below v.heap.size v w):KI n v X D K k wx:=by
 obtain ⟨S,a,cap,kr,lo,kb,bl,hx,ax⟩:=h
 exact ⟨S,a,cap,kr,fun c e=>Nat.le_trans b.size (lo c e),Nat.le_trans b.size kb,b.trans (bl.mono b.size),hx,ax⟩
theorem TgR.base {v w0 w:World} {n D T:Nat} {t:Tg} {Y:Nat→Prop} (h:TgR w0 n D T t Y w) (b:Below v.heap.size v w0):TgR v n D T t Y w:=by
 obtain ⟨X,m,ki,tb,lo,hy⟩:=h
 exact ⟨X,m,ki.base b,⟨tb.blk,tb.ok,tb.xt,tb.xw,tb.xn,tb.wn,tb.box,tb.wait,tb.wl,tb.have',tb.apart,OwnM.mono (B:=w0.heap.size) tb.fly b.size,tb.xf,tb.done⟩,fun c e=>Nat.le_trans b.size (lo c e),hy⟩
def tg0 (d:Dk):Tg:=Tg.start ⟨d,3,2,sNone⟩ (Gp.start.fence 2)
theorem qi_start:QI Gp.start 1:=⟨startTo_ok 3 (by omega),⟨0,1,by omega,by omega,rfl,rfl⟩,fun i hi=>by
 rcases (by omega:i=0∨i=1∨i=2) with rfl | rfl | rfl <;> exact Int.le_refl 1⟩
theorem start_mem:2≤(Gp.start.mem 1).length:=by decide +kernel
theorem zero_fa:Fa (·=Cel.zero):=⟨rfl,fun _ _ hx hy _ _=>hx.trans hy.symm⟩
theorem start_ti {d:Dk} (hk:KD 10 d 1 1 sNone) (hf:d.fuse=-1):TI 10 (·=Cel.zero) 1 (Tg.start ⟨d,1,1,sNone⟩ Gp.start) :=
 ⟨hk,hf,by show (1:Int)≤1; omega,by show (1:Int)≤1; omega,qi_start,Bl.zero_ok,⟨by show (0:Int)≤0; omega,by show (0:Int)≤1; omega⟩,⟨by show (0:Int)≤0; omega,by show (0:Int)≤1; omega⟩,by simp [Tg.start],(fun m hm=>by cases hm),by simp [Tg.start],(fun m hm=>by cases hm),List.Pairwise.nil,(fun m hm=>by cases hm),zero_fa,AllC.start rfl,fun x hx=>.inl (by subst hx; show (0:Int)<1; omega)⟩
theorem new_start {d:Dk} (hk:KD 10 d 1 1 sNone) (hf:d.fuse=-1) (sz:Sz d):(Tg.new 10 ⟨d,1,1,sNone⟩ Gp.start).2=0∧∃ d',(Tg.new 10 ⟨d,1,1,sNone⟩ Gp.start).1=tg0 d'∧TJ 10 (·=Cel.zero) 3 (tg0 d'):=by
 have h:=start_ti hk hf
 obtain ⟨e1,d',e2,e3,e4⟩:=(new_live h (by omega)).1 start_mem (by show ¬ (1:Int)=1000000; omega)
 have e5:(Tg.new 10 ⟨d,1,1,sNone⟩ Gp.start).1=tg0 d':=e2
 have hs:Sz (Tg.new 10 ⟨d,1,1,sNone⟩ Gp.start).1.k.d:=sz_next (t:=Tg.start ⟨d,1,1,sNone⟩ Gp.start) sz sNone
 rw [e5] at hs
 exact ⟨e1,d',e5,h.new start_mem e3 e4,hs⟩
def OpenedPost (w:World) (e:Ending) (w':World):Prop :=
 ∃ D T d,e=.returned (.tuple #[.pointer (some ⟨D,0,none⟩),.pointer (some ⟨T,0,none⟩),.bool true])∧TgR w 10 D T (tg0 d) (fun _=>False) w'∧TJ 10 (·=Cel.zero) 3 (tg0 d)
set_option maxRecDepth 100000 in
set_option maxHeartbeats 4000000 in
theorem opened_any (w:World) (t:Tabs w):Calls Tryz.prog 15 #[] w fun e w'=>OpenedPost w e w':=by
 have TT:=hid t
 have NEW:=hid (dnew_any 10 w (by omega))
 clear t
 go_enter Tryz.func15,Tryz.ntmps15
 go_wp2_with fail
 refine NEW.out.mono ?_
 rintro e w1 ⟨D,rfl,dk,b1⟩
 have FMT:=hid (format_any (made w w1) w1 D 10 (Dk.new 10) dk ⟨rfl,rfl⟩ (Dk.new_ok (by omega)) (Sz.new 10) (by omega) (by show (0:Nat)≤800; omega) (fun b e=>e.2) (Nat.le_trans TT.out.low b1.size)
  (fun w' kp=>TT.out.on (b1.trans (kp.below b1.size (fun k e=>e.1)))))
 have HB1:=hid b1
 clear dk b1 NEW
 go_wp2_with fail
 refine FMT.out.mono ?_
 rintro e w2 ⟨rfl,d,S,dk,kd,lv,sz,sub,lt,kp⟩
 have B2:=hid (show Below w.heap.size w w2 from HB1.out.trans (kp.below HB1.out.size (fun k e=>e.1)))
 have LO:=hid (show ∀ b,S b→w.heap.size≤b from fun b e=>by
  rcases sub b e with e | e
  ·exact e.1
  ·exact Nat.le_trans HB1.out.size e.1)
 have DK:=hid dk
 have LT:=hid lt
 have NS:=hid (new_start kd lv.1 sz)
 have TN:=hid (show ∀ w',Below w2.heap.size w2 w'→Calls Tryz.prog 40 #[.pointer (some ⟨D,0,none⟩),.agg Gp.start.arr] w' fun e w''=>NewPost w w' 10 D (fun _=>False) (Tg.new 10 ⟨d,1,1,sNone⟩ Gp.start) e w'' from fun w' b =>
  (tnew_any w w' 10 D d (fun _=>False) 1 1 sNone Gp.start ⟨S,DK.out.below b,fun c e=>Nat.lt_of_lt_of_le (LT.out c e) b.size,LO.out,B2.out.trans (b.mono B2.out.size),fun c e=>e.elim⟩ kd sz qi_start.ok (by omega) TT.out (fun c e=>e.elim)).mono fun e w'' h=>h.1)
 have GN:=hid (gnew_any w2)
 obtain ⟨G,hG⟩:∃ G,Gp.start.arr=G:=⟨_,rfl⟩
 rw [hG] at TN GN
 clear dk kd lv sz sub lt kp FMT hG
 go_wp2_with fail
 refine GN.out.mono ?_
 rintro e w3 ⟨rfl,b3⟩
 have TN3:=hid (TN.out w3 b3)
 clear b3 GN TN
 go_wp2_with fail
 refine TN3.out.mono ?_
 intro e w4 hp
 obtain ⟨T,rfl,h4,-,-⟩:=hp.1 NS.out.1
 obtain ⟨-,d',e1,tj⟩:=NS.out
 rw [e1] at h4
 have P:=hid h4
 have J:=hid tj
 clear hp h4 e1 tj TN3
 go_wp2
 exact bodyPost_ret (v:=.tuple #[.pointer (some ⟨D,0,none⟩),.pointer (some ⟨T,0,none⟩),.bool true]) (by simp [results,Tryz.results15,go_sem]) rfl ⟨D,T,d',rfl,P.out,J.out⟩
def cHay:Cmd:=⟨8,1,0,0,0,3,false,⟨#[104,97,121]⟩,⟨#[]⟩⟩
def cRead:Cmd:=⟨7,2,0,0,0,3,false,⟨#[]⟩,⟨#[]⟩⟩
def wk1 (d:Dk):Tg:=((tg0 d).ask 10 cHay).1
def wk2 (d:Dk):Tg:=((wk1 d).deliver 0 false).1
def wk3 (d:Dk):Tg:=((wk2 d).deliver 0 false).1
theorem works_law (d:Dk):((tg0 d).ask 10 cHay).2=⟨⟨#[]⟩,1,0,0⟩∧((wk1 d).deliver 0 false).2=(true,0)∧((wk2 d).deliver 0 false).2=(true,0)∧((wk3 d).ask 10 cRead).2=⟨⟨#[104,97,121]⟩,0,0,0⟩:=by
 refine ⟨?_,?_,?_,?_⟩ <;> kernel_rfl
theorem TI.tgd {n:Nat} {S:Cel→Prop} {B:Int} {t:Tg} (h:TI n S B t):TgD t:=⟨by have:=h.fl; omega,fun m hm=>by have:=h.msg m hm; omega,h.ws⟩
end Go.Proofs.YtajegiifabfcjaaGreatDoor
