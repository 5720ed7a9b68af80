/-
  Contracts of a target's methods: order. (Printed in part by gen_tgo.py.)
-/
import Derived.Test.YtajegiifabfcjaaGreatDoorQ31
import Derived.Test.YtajegiifabfcjaaGreatDoorQ17
namespace Go.Proofs.YtajegiifabfcjaaGreatDoor
open Go.RowKit Go.Sort
theorem kstate_any2 (S:Nat→Prop) (w:World) (K D n:Nat) (a:Option Addr) (cap:Nat) (k:Kp) (h:KpR S w K D n a cap k) (hl:k.s.regs.length≤1000) :
  Calls Tryz.prog 56 #[.pointer (some ⟨K,0,none⟩)] w fun e w'=>∃ a2 cap2,e=.returned (stV k.s a2 cap2)∧StR w' k.s a2∧Below w.heap.size w w'∧∀ b o,a2=some ⟨b,o,none⟩→w.heap.size≤b∧b<w'.heap.size:=by
 have HH:=Lib.hid h
 have hb:=h.blk
 have hK:=(Array.getElem?_eq_some_iff.1 h.blk).1
 clear h
 obtain ⟨y3,y4,y5,y6,y7⟩:w.cell? ⟨K,3,none⟩=some (.int .i64 k.s.gen)∧w.cell? ⟨K,4,none⟩=some (.slice a k.s.regs.length cap)∧w.cell? ⟨K,5,none⟩=some (.int .i64 k.s.typ)∧w.cell? ⟨K,6,none⟩=some (.int .i64 k.s.holder)∧w.cell? ⟨K,7,none⟩=some (.bool k.s.stays):=by simp [World.cell?,hb]
 clear hb
 go_enter Tryz.func56,Tryz.ntmps56
 go_upto_region 2 with fail
 obtain ⟨w1,hw1⟩:∃ w1,(w.alloc (.cells #[.int .i64 0,.slice none 0 0,.int .i64 0,.int .i64 0,.bool false] 35)).alloc (.cells #[.int .i64 k.s.gen,.slice a k.s.regs.length cap,.int .i64 k.s.typ,.int .i64 k.s.holder,.bool k.s.stays] 35)=w1:=⟨_,rfl⟩
 rw [hw1]
 have B1:=Lib.hid (show RowKit.Below w.heap.size w w1 from hw1▸(bal w _).trans ((bal _ _).mono (by simp)))
 have hz1:w1.heap.size=w.heap.size+2:=by rw [← hw1]; simp
 have R1:=Lib.hid (show w1.heap[w.heap.size]?=some (.cells #[.int .i64 0,.slice none 0 0,.int .i64 0,.int .i64 0,.bool false] 35 (0,0)) from hw1▸heap_alloc2_old w _ _)
 have N1:=Lib.hid (show w1.heap[w.heap.size+1]?=some (.cells #[.int .i64 k.s.gen,.slice a k.s.regs.length cap,.int .i64 k.s.typ,.int .i64 k.s.holder,.bool k.s.stays] 35 (0,0)) from hw1▸heap_alloc2_new w _ _)
 clear hw1
 obtain ⟨v,w2,hrun,hown,b2⟩:=append_pairs k.s.regs a cap 33 w1 hl ((HH.out.str.below B1.out).rep)
 obtain ⟨a2,cap2,rfl,hpa,-⟩:=OwnP.shape hown
 have LO:=Lib.hid (show ∀ q o,a2=some ⟨q,o,none⟩→w1.heap.size≤q∧q<w2.heap.size from fun q o e=>World.ownsRow.lt hown q (by rw [e]; rfl))
 have B2:=Lib.hid (B1.out.trans (b2.mono B1.out.size))
 have R2:=Lib.hid ((b2.block w.heap.size (by omega)).trans R1.out)
 have N2:=Lib.hid ((b2.block (w.heap.size+1) (by omega)).trans N1.out)
 have S2:=Lib.hid (show StR w2 k.s a2 from ⟨by unfold maxLen; omega,hpa⟩)
 obtain ⟨⟨c0,c1,c2,c3,c4⟩,f0,f1,f2,f3,f4⟩:=cells5 N1.out
 obtain ⟨⟨d0,d1,d2,d3,d4⟩,g0,g1,g2,g3,g4⟩:=cells5 N2.out
 obtain ⟨⟨r0,r1,r2,r3,r4⟩,t0,t1,t2,t3,t4⟩:=cells5 R2.out
 clear y3 y4 y5 y6 y7 hpa hown b2
 go_wp2_with (at_builtin; refine Lib.wpList_append_run _ rfl _ _ 33 33 rfl _ _ rfl rfl _ _ hrun ?_)
 have N3:=one_setCell (o:=1) N2.out (.slice a2 k.s.regs.length cap2)
 have R3:=(Below.heap_setCell w2 ⟨w.heap.size+1,1,none⟩ (.slice a2 k.s.regs.length cap2) w.heap.size (by show w.heap.size≠w.heap.size+1; omega)).trans R2.out
 refine bodyPost_ret (v:=stV k.s a2 cap2) (results_r1 Tryz.results56 _ _ w.heap.size 35 #[.int .i64 k.s.gen,.slice a2 k.s.regs.length cap2,.int .i64 k.s.typ,.int .i64 k.s.holder,.bool k.s.stays] _ rfl (five_at R3 _ _ _ _ _) state_row.1 rfl state_row.2) rfl ?_
 exact ⟨a2,cap2,rfl,(S2.out.keeps (kset (Keeps.refl (·=w.heap.size+1) w2) 1 (.slice a2 k.s.regs.length cap2)) (fun b o e _=>by have:=(LO.out b o e).1; omega)).five (fun b o e=>by have:=(LO.out b o e).1; omega) _ _ _ _ _,
  five_below (B2.out.setCell (p:=⟨w.heap.size+1,1,none⟩) (by show w.heap.size≤w.heap.size+1; omega) _) (Nat.le_refl _) _ _ _ _ _,fun b o e=>⟨by have:=(LO.out b o e).1; omega,by have:=(LO.out b o e).2; simpa [World.setCell] using this⟩⟩
theorem stateI3 (n:Nat) (w wx:World) (X:Nat→Prop) (D K:Nat) (k:Kp) (h:KI n w X D K k wx) (hl:k.s.regs.length≤1000) :
  Calls Tryz.prog 56 #[.pointer (some ⟨K,0,none⟩)] wx fun e w'=>∃ a2 cap2,e=.returned (stV k.s a2 cap2)∧StR w' k.s a2∧Below wx.heap.size wx w'∧∀ b o,a2=some ⟨b,o,none⟩→wx.heap.size≤b∧b<w'.heap.size:=by
 obtain ⟨S,a,cap,kr,lo,kb,bl,hx,ax⟩:=h
 exact kstate_any2 S wx K D n a cap k kr hl
def OCut (w1:World) (r:St × List (Int × Int) × Int) (V:Nat) (v:Value) (wx:World):Prop :=
 ∃ a cap,w1.heap.size≤V∧wx.heap[V]?=some (.cells #[.int .i64 r.1.gen,.slice a r.1.regs.length cap,.int .i64 r.1.typ,.int .i64 r.1.holder,.bool r.1.stays] 35 (0,0))∧StR wx r.1 a∧(∀ b o,a=some ⟨b,o,none⟩→w1.heap.size≤b)∧OwnT w1.heap.size wx v r.2.1∧Below w1.heap.size w1 wx
theorem five_keeps2 {w:World} {V:Nat} (v0 v1 v2 v3 v4:Value):Keeps (·=V) w (five w V v0 v1 v2 v3 v4):=by
 unfold five
 exact (((((Keeps.refl (·=V) w).setCell (p:=⟨V,0,none⟩) rfl _).setCell (p:=⟨V,1,none⟩) rfl _).setCell (p:=⟨V,2,none⟩) rfl _).setCell (p:=⟨V,3,none⟩) rfl _).setCell (p:=⟨V,4,none⟩) rfl _
theorem ownT_keeps {B V:Nat} {w w':World} {v:Value} {l:List (Int × Int)} (h:OwnT B w v l) (k:Keeps (·=V) w w') (hv:∀ k,v.ownBlock=some k→k≠V):OwnT B w' v l :=
 ownsRow_same h (fun b e=>k.block b (hv b e) (World.ownsRow.lt h b e).2)
theorem ocut_fin {w1 wd:World} {r:St × List (Int × Int) × Int} {V:Nat} {x0 x1 x2 x3 x4:Value} {a:Option Addr} {c:Nat} {v:Value} (b:Below w1.heap.size w1 wd) (hV:w1.heap.size≤V) (hv:wd.heap[V]?=some (.cells #[x0,x1,x2,x3,x4] 35 (0,0))) (hs:StR wd r.1 a) (fa:∀ b o,a=some ⟨b,o,none⟩→w1.heap.size≤b)
  (nv:(∀ b o,a=some ⟨b,o,none⟩→r.1.regs≠[]→b≠V)∧∀ k,v.ownBlock=some k→k≠V) (ho:OwnT w1.heap.size wd v r.2.1) :
  OCut w1 r V v (five wd V (.int .i64 r.1.gen) (.slice a r.1.regs.length c) (.int .i64 r.1.typ) (.int .i64 r.1.holder) (.bool r.1.stays))∧Below w1.heap.size w1 (five wd V (.int .i64 r.1.gen) (.slice a r.1.regs.length c) (.int .i64 r.1.typ) (.int .i64 r.1.holder) (.bool r.1.stays)) :=
 have hb:=five_below b hV (.int .i64 r.1.gen) (.slice a r.1.regs.length c) (.int .i64 r.1.typ) (.int .i64 r.1.holder) (.bool r.1.stays)
 ⟨⟨a,c,hV,five_at hv _ _ _ _ _,hs.keeps (five_keeps2 _ _ _ _ _) nv.1,fa,ownT_keeps ho (five_keeps2 _ _ _ _ _) nv.2,hb⟩,hb⟩
theorem Bx.set_get (b:Bx) (who k:Int) (s:Sl):(b.set who s).get k=s∨∃ k',(b.set who s).get k=b.get k':=by
 have key:∀ x:Bx,(x.s1=s∨x.s1=b.s1)→(x.s2=s∨x.s2=b.s2)→(x.s3=s∨x.s3=b.s3)→(x.s4=s∨x.s4=b.s4)→(x.get k=s∨∃ k',x.get k=b.get k'):=by
  intro x h1 h2 h3 h4
  by_cases k1:k=1
  ·rw [show x.get k=x.s1 from if_pos k1]; exact h1.imp id (fun e=>⟨1,e⟩)
  by_cases k2:k=2
  ·rw [show x.get k=x.s2 from (if_neg k1).trans (if_pos k2)]; exact h2.imp id (fun e=>⟨2,e⟩)
  by_cases k3:k=3
  ·rw [show x.get k=x.s3 from (if_neg k1).trans ((if_neg k2).trans (if_pos k3))]; exact h3.imp id (fun e=>⟨3,e⟩)
  ·rw [show x.get k=x.s4 from (if_neg k1).trans ((if_neg k2).trans (if_neg k3))]; exact h4.imp id (fun e=>⟨4,e⟩)
 unfold Bx.set
 split
 ·exact key _ (.inl rfl) (.inr rfl) (.inr rfl) (.inr rfl)
 split
 ·exact key _ (.inr rfl) (.inl rfl) (.inr rfl) (.inr rfl)
 split
 ·exact key _ (.inr rfl) (.inr rfl) (.inl rfl) (.inr rfl)
 ·exact key _ (.inr rfl) (.inr rfl) (.inr rfl) (.inl rfl)
theorem TgR.setBox1 {X:Nat→Prop} {w0 w w1:World} {n D T:Nat} {m:Tm} {t:Tg} {Y:Nat→Prop} (ki:KI n w0 X D m.K t.k w) (tb:TgB X w0 w T m t) (lo:∀ b,X b→w0.heap.size≤b) (hy:∀ b,Y b→X b∧¬ m.own T b) (b1:Below w.heap.size w w1) {who:Int} (hw:1≤who∧who≤4) (s:Sl) (hs:s.ok w1) (hh:s=m.b.get who∨HiI w.heap.size w1 s.a s.l) :
  TgPost w0 w n D T { t with b:=t.b.set who s.l } Y (set4W w1 T (m.b.set who s)):=by
 have hT:=(Array.getElem?_eq_some_iff.1 tb.blk).1
 have k1:=ki.all b1
 have tb1:=(tb.same (ki.same_of b1) (ki.over b1).lt).mono (Y:=fun c=>X c∨(w.heap.size≤c∧c<w1.heap.size)) (fun c e=>.inl e)
 have lo1:∀ c,(X c∨(w.heap.size≤c∧c<w1.heap.size))→w0.heap.size≤c:=fun c e=>by
  rcases e with e | e
  ·exact lo c e
  ·exact Nat.le_trans ki.below.size e.1
 have N:SlX (m.bx (fun c=>X c∨(w.heap.size≤c∧c<w1.heap.size)) T) w1 s s.l:=by
  refine ⟨?_,hs.len,hs.cap,rfl⟩
  rcases hh with hh | hh
  ·rw [hh]; exact (tb1.box who).ints
  ·exact hh.intsX (fun c h1 h2=>⟨.inr ⟨h1,h2⟩,by omega,fun o e=>by have:=ki.lt c (tb.xf c o e); omega⟩)
 have o1:=tb1.box 1
 have o2:=tb1.box 2
 have o3:=tb1.box 3
 have o4:=tb1.box 4
 have tb2:=tb1.setBox (m.b.set who s) (t.b.set who s.l) (fun k=>by
  have hk:who=1∨who=2∨who=3∨who=4:=by omega
  rcases hk with rfl | rfl | rfl | rfl
  ·by_cases h1:k=1
   ·subst h1; exact N
   by_cases h2:k=2
   ·subst h2; exact o2
   by_cases h3:k=3
   ·subst h3; exact o3
   ·have e1:(m.b.set 1 s).get k=m.b.get 4:=by unfold Bx.get; rw [if_neg h1,if_neg h2,if_neg h3]; rfl
    have e2:(t.b.set 1 s.l).get k=t.b.get 4:=by unfold Bl.get; rw [if_neg h1,if_neg h2,if_neg h3]; rfl
    rw [e1,e2]; exact o4
  ·by_cases h1:k=1
   ·subst h1; exact o1
   by_cases h2:k=2
   ·subst h2; exact N
   by_cases h3:k=3
   ·subst h3; exact o3
   ·have e1:(m.b.set 2 s).get k=m.b.get 4:=by unfold Bx.get; rw [if_neg h1,if_neg h2,if_neg h3]; rfl
    have e2:(t.b.set 2 s.l).get k=t.b.get 4:=by unfold Bl.get; rw [if_neg h1,if_neg h2,if_neg h3]; rfl
    rw [e1,e2]; exact o4
  ·by_cases h1:k=1
   ·subst h1; exact o1
   by_cases h2:k=2
   ·subst h2; exact o2
   by_cases h3:k=3
   ·subst h3; exact N
   ·have e1:(m.b.set 3 s).get k=m.b.get 4:=by unfold Bx.get; rw [if_neg h1,if_neg h2,if_neg h3]; rfl
    have e2:(t.b.set 3 s.l).get k=t.b.get 4:=by unfold Bl.get; rw [if_neg h1,if_neg h2,if_neg h3]; rfl
    rw [e1,e2]; exact o4
  ·by_cases h1:k=1
   ·subst h1; exact o1
   by_cases h2:k=2
   ·subst h2; exact o2
   by_cases h3:k=3
   ·subst h3; exact o3
   ·have e1:(m.b.set 4 s).get k=s:=by unfold Bx.get; rw [if_neg h1,if_neg h2,if_neg h3]; rfl
    have e2:(t.b.set 4 s.l).get k=s.l:=by unfold Bl.get; rw [if_neg h1,if_neg h2,if_neg h3]; rfl
    rw [e1,e2]; exact N)
 have hT1:(fun c=>X c∨(w.heap.size≤c∧c<w1.heap.size)) T:=.inl tb.xt
 exact ⟨⟨_,{ m with b:=m.b.set who s },k1.set (set4_keeps w1 hT1 _) lo1,tb2,lo1,fun c e=>⟨.inl (hy c e).1,fun ho=>by
   have hc:=ki.lt c (hy c e).1
   rcases ho with ho | ho | ho | ho | ho | ⟨k,o,e',hn⟩
   ·exact (hy c e).2 (.inl ho)
   ·exact (hy c e).2 (.inr (.inl ho))
   ·exact (hy c e).2 (.inr (.inr (.inl ho)))
   ·exact (hy c e).2 (.inr (.inr (.inr (.inl ho))))
   ·exact (hy c e).2 (.inr (.inr (.inr (.inr (.inl ho)))))
   ·have old:∀ k',(m.b.get k').a=some ⟨c,o,none⟩→(m.b.get k').l≠[]→False:=fun k' a1 a2=>(hy c e).2 (.inr (.inr (.inr (.inr (.inr ⟨k',o,a1,a2⟩)))))
    have e2:((m.b.set who s).get k).a=some ⟨c,o,none⟩:=e'
    have n2:((m.b.set who s).get k).l≠[]:=hn
    rcases Bx.set_get m.b who k s with q | ⟨k',q⟩
    ·rw [q] at e2 n2
     rcases hh with hh | hh
     ·rw [hh] at e2 n2
      exact old who e2 n2
     ·obtain ⟨b',o',a1,a2,-⟩:=hh 0 (List.length_pos_iff.2 n2)
      rw [e2] at a1
      cases a1
      omega
    ·rw [q] at e2 n2
     exact old k' e2 n2⟩⟩,
  fun c hc=>((set4_keeps (X:=(·=T)) w1 rfl _).block c (fun e=>(hy c hc).2 (.inl e)) ((ki.over b1).lt c (hy c hc).1)).trans (b1.block c (ki.lt c (hy c hc).1)),(Keeps.of_below b1).trans (set4_keeps (X:=(·=T)) w1 rfl _)⟩
theorem SlX.ok {X:Nat→Prop} {w:World} {s:Sl} {l:List Int} (h:SlX X w s l):s.ok w:=⟨h.ints.ints,h.len,h.cap⟩
theorem TgB.boxOk {X:Nat→Prop} {w0 w:World} {T:Nat} {m:Tm} {t:Tg} (h:TgB X w0 w T m t):m.b.ok w:=⟨(h.box 1).ok,(h.box 2).ok,(h.box 3).ok,(h.box 4).ok⟩
section
variable (w0 w:World) (n D T:Nat) (t:Tg) (Y:Nat→Prop)
set_option maxRecDepth 100000 in
set_option maxHeartbeats 40000000 in
theorem torder_any (c:Cmd) (h:TgR w0 n D T t Y w) (hn:TgN n t) (hc:CmdOk c) (hwho:∀ x∈(pdo t.k.s c).2.1,1≤x.1∧x.1≤4) (tt:Tabs w0) :
  Calls Tryz.prog 55 #[.pointer (some ⟨T,0,none⟩),cmdV c] w fun e w'=>e=.returned (errV (t.order n c).2)∧TgR w0 n D T (t.order n c).1 Y w'∧Same Y w w':=by
 have HN:=Lib.hid hn
 have HC:=Lib.hid hc
 have TT:=Lib.hid tt
 have GD:=Lib.hid (show Good t.k.s from hn.kg.kd.place.k.g)
 obtain ⟨w1,hw1⟩:∃ w1,w1=w.alloc (.cells #[.int .i64 c.op,.int .i64 c.who,.int .i64 c.key,.int .i64 c.new,.int .i64 c.typ,.int .i64 c.at',.bool c.stays,.string c.data,.string c.want] 37):=⟨_,rfl⟩
 have B1:=Lib.hid (show RowKit.Below w.heap.size w w1 from hw1▸bal w _)
 have R1:=Lib.hid (show w1.heap[w.heap.size]?=some (.cells #[.int .i64 c.op,.int .i64 c.who,.int .i64 c.key,.int .i64 c.new,.int .i64 c.typ,.int .i64 c.at',.bool c.stays,.string c.data,.string c.want] 37 (0,0)) from hw1▸heap_alloc_new w _)
 have HA:=(Array.getElem?_eq_some_iff.1 R1.out).1
 have SY1:=Lib.hid (show Same Y w w1 from fun b hb=>B1.out.block b (h.lt_y b hb))
 have H1:=Lib.hid (show TgR w0 n D T t Y w1 from h.over B1.out)
 clear h hn hc tt
 have OR:=Lib.hid (show t.order n c=if (pdo t.k.s c).2.2≠0 then (t,(pdo t.k.s c).2.2) else
  if (if lessB pmay t.k.s (pdo t.k.s c).1 then t.next n (pdo t.k.s c).1 else t.keep n t.k.ep (pdo t.k.s c).1).2≠0 then (if lessB pmay t.k.s (pdo t.k.s c).1 then t.next n (pdo t.k.s c).1 else t.keep n t.k.ep (pdo t.k.s c).1)
  else ({ (if lessB pmay t.k.s (pdo t.k.s c).1 then t.next n (pdo t.k.s c).1 else t.keep n t.k.ep (pdo t.k.s c).1).1 with b:=(if lessB pmay t.k.s (pdo t.k.s c).1 then t.next n (pdo t.k.s c).1 else t.keep n t.k.ep (pdo t.k.s c).1).1.b.adds (pdo t.k.s c).2.1 },0) from rfl)
 obtain ⟨R,hR⟩:∃ R,t.order n c=R:=⟨_,rfl⟩
 rw [hR] at OR ⊢
 have DO:=Lib.hid (fun (w':World) a cap (hs:StR w' t.k.s a)=>do_any t.k.s a cap c w' hs ⟨by have:=GD.out.regs_len; omega,fun r hr=>by have:=GD.out.bounds r hr; omega,GD.out.sorted⟩ (by have:=HC.out.who; omega) HC.out.op.1 GD.out.gen)
 obtain ⟨r,hr⟩:∃ r,pdo t.k.s c=r:=⟨_,rfl⟩
 rw [hr] at OR DO hwho
 have WHO:=Lib.hid hwho
 clear hR hr hwho
 obtain ⟨X,m,ki,tb,lo,hy⟩:=H1.out
 have hT:=(Array.getElem?_eq_some_iff.1 tb.blk).1
 have SC:=Lib.hid (fun w' (b:RowKit.Below w1.heap.size w1 w')=>(b.cell (p:=⟨T,0,none⟩) hT).trans (tg_cells tb.blk tb.ok).1.1)
 have CB:=Lib.hid (show ∀ w',RowKit.Below w1.heap.size w1 w'→w'.cell? ⟨w.heap.size,0,none⟩=some (.int .i64 c.op)∧w'.cell? ⟨w.heap.size,1,none⟩=some (.int .i64 c.who)∧w'.cell? ⟨w.heap.size,2,none⟩=some (.int .i64 c.key)∧w'.cell? ⟨w.heap.size,3,none⟩=some (.int .i64 c.new)∧w'.cell? ⟨w.heap.size,4,none⟩=some (.int .i64 c.typ)∧w'.cell? ⟨w.heap.size,5,none⟩=some (.int .i64 c.at')∧w'.cell? ⟨w.heap.size,6,none⟩=some (.bool c.stays)∧w'.cell? ⟨w.heap.size,7,none⟩=some (.string c.data)∧w'.cell? ⟨w.heap.size,8,none⟩=some (.string c.want) from fun w' b=>by
  have q:=(b.block _ HA).trans R1.out
  simp [World.cell?,q])
 have STA:=Lib.hid (fun w' (b:RowKit.Below w1.heap.size w1 w')=>stateI3 n w0 w' X D m.K t.k (ki.over b) (by have:=GD.out.regs_len; omega))
 clear ki tb lo hy
 go_enter Tryz.func55,Tryz.ntmps55
 go_upto_region 1 with fail
 rw [← hw1]
 clear hw1
 go_cut [5,6,7] (fun v5 v6 v7 wx=>∃ V v,v5=.pointer (some ⟨V,0,none⟩)∧v6=v∧v7=errV r.2.2∧OCut w1 r V v wx)
 case first =>
  obtain ⟨S,hS⟩:∃ S:World→Prop,S=fun w'=>RowKit.Below w1.heap.size w1 w':=⟨_,rfl⟩
  have S3:∀ w',RowKit.Below w1.heap.size w1 w'→S w':=fun w' h=>by rw [hS]; exact h
  have S4:∀ w',S w'→RowKit.Below w1.heap.size w1 w':=fun w' h=>by rw [hS] at h; exact h
  clear hS
  refine wp_region_held_drew (S:=S) (by kernel_rfl) (S3 _ (Below.refl _ _).drew) (fun hHeld=>?_)
  obtain ⟨wd,hwd⟩:∃ wd,wd=w1.drew:=⟨_,rfl⟩
  rw [← hwd] at hHeld ⊢
  clear hwd
  refine wt 0 (.pointer (some ⟨T,0,none⟩)) hHeld ?_
  go_simp
  refine wt 1 (.pointer (some ⟨T,0,none⟩)) hHeld ?_
  go_simp
  refine wt 2 (.pointer (some ⟨T,0,none⟩)) hHeld ?_
  go_simp
  refine wt 3 (.pointer (some ⟨m.K,0,none⟩)) hHeld ?_ (hy:=Or.inl ⟨by rfl,fun w' hSw=>by have hc:=SC.out w' (S4 w' hSw); go_simp⟩)
  go_simp
  refine wt 5 (cmdV c) hHeld ?_ (hy:=Or.inl ⟨by rfl,fun w' hSw=>by obtain ⟨q0,q1,q2,q3,q4,q5,q6,q7,q8⟩:=CB.out w' (S4 w' hSw); go_simp⟩)
  go_simp
  refine wpAnyH_ready (rs:=[4,11]) (by kernel_rfl) (by simp) ?_
  refine AllReadyH.cons (o:=_) rfl (fun Kx hK=>?_) (AllReadyH.cons (o:=_) rfl (fun Kx hK=>?_) AllReadyH.nil)
  ·go_simp
   refine (STA.out _ (S4 _ hHeld)).mono ?_
   rintro e w1_ ⟨x1,y1,rfl,hs1,b1,fr1⟩
   have HS1:=Lib.hid hs1
   have FR1:=Lib.hid (show ∀ b o,x1=some ⟨b,o,none⟩→w1.heap.size≤b∧b<w1_.heap.size from fun b o q=>⟨Nat.le_trans (S4 _ hHeld).size (fr1 b o q).1,(fr1 b o q).2⟩)
   have HH1:=S3 _ ((S4 _ hHeld).trans (b1.mono (S4 _ hHeld).size))
   clear hs1 fr1 b1
   refine hK.out _ _ HH1 (fun hHeld1=>?_)
   clear hK Kx HH1
   refine wpAnyH_ready (rs:=[6,11]) (by kernel_rfl) (by simp) ?_
   refine AllReadyH.cons (o:=_) rfl (fun Kx hK=>?_) (AllReadyH.cons (o:=_) rfl (fun Kx hK=>?_) AllReadyH.nil)
   ·go_simp
    refine (DO.out _ _ _ HS1.out).mono ?_
    rintro e w2_ ⟨a2,c2,v2,rfl,hs2,hA2,ho2,b2⟩
    have HS2:=Lib.hid hs2
    have HO2:=Lib.hid (show OwnT w1.heap.size w2_ v2 r.2.1 from ho2.mono (S4 _ hHeld1).size)
    have FR2:=Lib.hid (show ∀ b o,a2=some ⟨b,o,none⟩→w1.heap.size≤b from fun b o q=>by rcases hA2 with h | h; exact (FR1.out b o (h▸q)).1; exact Nat.le_trans (S4 _ hHeld1).size (h b o q))
    have HH2:=S3 _ ((S4 _ hHeld1).trans (b2.mono (S4 _ hHeld1).size))
    clear hs2 hA2 ho2 b2
    refine hK.out _ _ HH2 (fun hHeld2=>?_)
    clear hK Kx HH2
    refine wt 7 (.tuple #[.agg #[.int .i64 r.1.gen,.slice a2 r.1.regs.length c2,.int .i64 r.1.typ,.int .i64 r.1.holder,.bool r.1.stays],v2,errV r.2.2]) hHeld2 ?_
    go_simp
    refine wt 8 (.agg #[.int .i64 r.1.gen,.slice a2 r.1.regs.length c2,.int .i64 r.1.typ,.int .i64 r.1.holder,.bool r.1.stays]) hHeld2 ?_
    go_simp
    refine wt 9 (v2) hHeld2 ?_
    go_simp
    refine wt 10 (errV r.2.2) hHeld2 ?_
    go_simp
    refine wpAnyH_ready (rs:=[11]) (by kernel_rfl) (by simp) ?_
    refine AllReadyH.cons (o:=_) rfl (fun Kx hK=>?_) AllReadyH.nil
    go_simp
    obtain ⟨w3_,hw3⟩:∃ x,x=w2_.alloc (.cells #[.int .i64 0,.slice none 0 0,.int .i64 0,.int .i64 0,.bool false] 35):=⟨_,rfl⟩
    have HV3:=Lib.hid (show w3_.heap[w2_.heap.size]?=some (.cells #[.int .i64 0,.slice none 0 0,.int .i64 0,.int .i64 0,.bool false] 35 (0,0)) from hw3▸heap_alloc_new _ _)
    have b3:RowKit.Below w2_.heap.size w2_ w3_:=hw3▸bal _ _
    have HL3:w1.heap.size≤w2_.heap.size:=(S4 _ hHeld2).size
    have HH3:=S3 _ ((S4 _ hHeld2).trans (b3.mono (S4 _ hHeld2).size))
    rw [← hw3]
    have HS3:=Lib.hid (show StR w3_ r.1 a2 from HS2.out.below b3)
    have HO3:=Lib.hid (show OwnT w1.heap.size w3_ v2 r.2.1 from OwnT.below HO2.out b3)
    have NV3:=Lib.hid (show (∀ b o,a2=some ⟨b,o,none⟩→r.1.regs≠[]→b≠w2_.heap.size)∧∀ k,v2.ownBlock=some k→k≠w2_.heap.size from ⟨fun b o q hne=>by have hs:=HS2.out; rw [q] at hs; have:=StR.blt hs hne; omega,fun k q=>by have:=(World.ownsRow.lt HO2.out k q).2; omega⟩)
    obtain ⟨V3,hV3⟩:∃ V,w2_.heap.size=V:=⟨_,rfl⟩
    rw [hV3] at HV3 HL3 NV3 ⊢
    clear hw3 hV3 b3
    refine hK.out _ _ HH3 (fun hHeld3=>?_)
    clear hK Kx HH3
    refine wpAnyH_ready (rs:=[12]) (by kernel_rfl) (by simp) ?_
    refine AllReadyH.cons (o:=_) rfl (fun Kx hK=>?_) AllReadyH.nil
    obtain ⟨⟨y0,y1,y2,y3,y4⟩,z0,z1,z2,z3,z4⟩:=cells5 HV3.out
    go_simp
    clear y0 y1 y2 y3 y4 z0 z1 z2 z3 z4
    have OC4:=Lib.hid (ocut_fin (c:=c2) (S4 _ hHeld3) HL3 HV3.out HS3.out FR2.out NV3.out HO3.out)
    have HH4:=S3 _ OC4.out.2
    refine hK.out _ _ HH4 (fun hHeld4=>?_)
    clear hK Kx HH4
    refine wpAnyH_ready (rs:=[13]) (by kernel_rfl) (by simp) ?_
    refine AllReadyH.cons (o:=_) rfl (fun Kx hK=>?_) AllReadyH.nil
    go_simp
    have HH5:=hHeld4
    refine hK.out _ _ HH5 (fun hHeld5=>?_)
    clear hK Kx HH5
    refine wpAnyH_ready (rs:=[14]) (by kernel_rfl) (by simp) ?_
    refine AllReadyH.cons (o:=_) rfl (fun Kx hK=>?_) AllReadyH.nil
    go_simp
    have HH6:=hHeld5
    refine hK.out _ _ HH6 (fun hHeld6=>?_)
    clear hK Kx HH6
    refine wpAnyH_done (by kernel_rfl) ?_ _
    go_wp2_with fail
    go_meet
    exact ⟨V3,v2,rfl,rfl,rfl,OC4.out.1⟩
   ·go_simp
    obtain ⟨w7_,hw7⟩:∃ x,x=w1_.alloc (.cells #[.int .i64 0,.slice none 0 0,.int .i64 0,.int .i64 0,.bool false] 35):=⟨_,rfl⟩
    have HV7:=Lib.hid (show w7_.heap[w1_.heap.size]?=some (.cells #[.int .i64 0,.slice none 0 0,.int .i64 0,.int .i64 0,.bool false] 35 (0,0)) from hw7▸heap_alloc_new _ _)
    have b7:RowKit.Below w1_.heap.size w1_ w7_:=hw7▸bal _ _
    have HL7:w1.heap.size≤w1_.heap.size:=(S4 _ hHeld1).size
    have HH7:=S3 _ ((S4 _ hHeld1).trans (b7.mono (S4 _ hHeld1).size))
    rw [← hw7]
    have HS7:=Lib.hid (show StR w7_ t.k.s x1 from HS1.out.below b7)
    have NV7:=Lib.hid (show ∀ b o,x1=some ⟨b,o,none⟩→b≠w1_.heap.size from fun b o q=>by have:=(FR1.out b o q).2; omega)
    have FR7:=Lib.hid (show ∀ b o,x1=some ⟨b,o,none⟩→w1.heap.size≤b∧b<w7_.heap.size from fun b o q=>⟨(FR1.out b o q).1,Nat.lt_of_lt_of_le (FR1.out b o q).2 b7.size⟩)
    obtain ⟨V7,hV7⟩:∃ V,w1_.heap.size=V:=⟨_,rfl⟩
    rw [hV7] at HV7 HL7 NV7 ⊢
    clear hw7 hV7 b7
    refine hK.out _ _ HH7 (fun hHeld7=>?_)
    clear hK Kx HH7
    refine wpAnyH_ready (rs:=[6]) (by kernel_rfl) (by simp) ?_
    refine AllReadyH.cons (o:=_) rfl (fun Kx hK=>?_) AllReadyH.nil
    go_simp
    refine (DO.out _ _ _ HS7.out).mono ?_
    rintro e w8_ ⟨a8,c8,v8,rfl,hs8,hA8,ho8,b8⟩
    have HS8:=Lib.hid hs8
    have HO8:=Lib.hid (show OwnT w1.heap.size w8_ v8 r.2.1 from ho8.mono (S4 _ hHeld7).size)
    have FR8:=Lib.hid (show ∀ b o,a8=some ⟨b,o,none⟩→w1.heap.size≤b from fun b o q=>by rcases hA8 with h | h; exact (FR7.out b o (h▸q)).1; exact Nat.le_trans (S4 _ hHeld7).size (h b o q))
    have NV8:=Lib.hid (show (∀ b o,a8=some ⟨b,o,none⟩→r.1.regs≠[]→b≠V7)∧∀ k,v8.ownBlock=some k→k≠V7 from by
     have hl:=(Array.getElem?_eq_some_iff.1 HV7.out).1
     refine ⟨fun b o q _=>?_,fun k q=>by have:=ho8.blk k q; omega⟩
     rcases hA8 with h | h
     ·exact NV7.out b o (h▸q)
     ·have:=h b o q; omega)
    have HV8:=Lib.hid ((b8.block _ (Array.getElem?_eq_some_iff.1 HV7.out).1).trans HV7.out)
    have HH8:=S3 _ ((S4 _ hHeld7).trans (b8.mono (S4 _ hHeld7).size))
    clear hs8 hA8 ho8 b8
    refine hK.out _ _ HH8 (fun hHeld8=>?_)
    clear hK Kx HH8
    refine wt 7 (.tuple #[.agg #[.int .i64 r.1.gen,.slice a8 r.1.regs.length c8,.int .i64 r.1.typ,.int .i64 r.1.holder,.bool r.1.stays],v8,errV r.2.2]) hHeld8 ?_
    go_simp
    refine wt 8 (.agg #[.int .i64 r.1.gen,.slice a8 r.1.regs.length c8,.int .i64 r.1.typ,.int .i64 r.1.holder,.bool r.1.stays]) hHeld8 ?_
    go_simp
    refine wt 9 (v8) hHeld8 ?_
    go_simp
    refine wt 10 (errV r.2.2) hHeld8 ?_
    go_simp
    refine wpAnyH_ready (rs:=[12]) (by kernel_rfl) (by simp) ?_
    refine AllReadyH.cons (o:=_) rfl (fun Kx hK=>?_) AllReadyH.nil
    obtain ⟨⟨y0,y1,y2,y3,y4⟩,z0,z1,z2,z3,z4⟩:=cells5 HV8.out
    go_simp
    clear y0 y1 y2 y3 y4 z0 z1 z2 z3 z4
    have OC9:=Lib.hid (ocut_fin (c:=c8) (S4 _ hHeld8) HL7 HV8.out HS8.out FR8.out NV8.out HO8.out)
    have HH9:=S3 _ OC9.out.2
    refine hK.out _ _ HH9 (fun hHeld9=>?_)
    clear hK Kx HH9
    refine wpAnyH_ready (rs:=[13]) (by kernel_rfl) (by simp) ?_
    refine AllReadyH.cons (o:=_) rfl (fun Kx hK=>?_) AllReadyH.nil
    go_simp
    have HH10:=hHeld9
    refine hK.out _ _ HH10 (fun hHeld10=>?_)
    clear hK Kx HH10
    refine wpAnyH_ready (rs:=[14]) (by kernel_rfl) (by simp) ?_
    refine AllReadyH.cons (o:=_) rfl (fun Kx hK=>?_) AllReadyH.nil
    go_simp
    have HH11:=hHeld10
    refine hK.out _ _ HH11 (fun hHeld11=>?_)
    clear hK Kx HH11
    refine wpAnyH_done (by kernel_rfl) ?_ _
    go_wp2_with fail
    go_meet
    exact ⟨V7,v8,rfl,rfl,rfl,OC9.out.1⟩
  ·go_simp
   obtain ⟨w12_,hw12⟩:∃ x,x=wd.alloc (.cells #[.int .i64 0,.slice none 0 0,.int .i64 0,.int .i64 0,.bool false] 35):=⟨_,rfl⟩
   have HV12:=Lib.hid (show w12_.heap[wd.heap.size]?=some (.cells #[.int .i64 0,.slice none 0 0,.int .i64 0,.int .i64 0,.bool false] 35 (0,0)) from hw12▸heap_alloc_new _ _)
   have b12:RowKit.Below wd.heap.size wd w12_:=hw12▸bal _ _
   have HL12:w1.heap.size≤wd.heap.size:=(S4 _ hHeld).size
   have HH12:=S3 _ ((S4 _ hHeld).trans (b12.mono (S4 _ hHeld).size))
   rw [← hw12]
   obtain ⟨V12,hV12⟩:∃ V,wd.heap.size=V:=⟨_,rfl⟩
   rw [hV12] at HV12 HL12 ⊢
   clear hw12 hV12 b12
   refine hK.out _ _ HH12 (fun hHeld12=>?_)
   clear hK Kx HH12
   refine wpAnyH_ready (rs:=[4]) (by kernel_rfl) (by simp) ?_
   refine AllReadyH.cons (o:=_) rfl (fun Kx hK=>?_) AllReadyH.nil
   go_simp
   refine (STA.out _ (S4 _ hHeld12)).mono ?_
   rintro e w13_ ⟨x13,y13,rfl,hs13,b13,fr13⟩
   have HS13:=Lib.hid hs13
   have FR13:=Lib.hid (show ∀ b o,x13=some ⟨b,o,none⟩→w1.heap.size≤b∧b<w13_.heap.size from fun b o q=>⟨Nat.le_trans (S4 _ hHeld12).size (fr13 b o q).1,(fr13 b o q).2⟩)
   have NV13:=Lib.hid (show ∀ b o,x13=some ⟨b,o,none⟩→b≠V12 from fun b o q=>by have:=(fr13 b o q).1; have:=(Array.getElem?_eq_some_iff.1 HV12.out).1; omega)
   have HV13:=Lib.hid ((b13.block _ (Array.getElem?_eq_some_iff.1 HV12.out).1).trans HV12.out)
   have HH13:=S3 _ ((S4 _ hHeld12).trans (b13.mono (S4 _ hHeld12).size))
   clear hs13 fr13 b13
   refine hK.out _ _ HH13 (fun hHeld13=>?_)
   clear hK Kx HH13
   refine wpAnyH_ready (rs:=[6]) (by kernel_rfl) (by simp) ?_
   refine AllReadyH.cons (o:=_) rfl (fun Kx hK=>?_) AllReadyH.nil
   go_simp
   refine (DO.out _ _ _ HS13.out).mono ?_
   rintro e w14_ ⟨a14,c14,v14,rfl,hs14,hA14,ho14,b14⟩
   have HS14:=Lib.hid hs14
   have HO14:=Lib.hid (show OwnT w1.heap.size w14_ v14 r.2.1 from ho14.mono (S4 _ hHeld13).size)
   have FR14:=Lib.hid (show ∀ b o,a14=some ⟨b,o,none⟩→w1.heap.size≤b from fun b o q=>by rcases hA14 with h | h; exact (FR13.out b o (h▸q)).1; exact Nat.le_trans (S4 _ hHeld13).size (h b o q))
   have NV14:=Lib.hid (show (∀ b o,a14=some ⟨b,o,none⟩→r.1.regs≠[]→b≠V12)∧∀ k,v14.ownBlock=some k→k≠V12 from by
    have hl:=(Array.getElem?_eq_some_iff.1 HV13.out).1
    refine ⟨fun b o q _=>?_,fun k q=>by have:=ho14.blk k q; omega⟩
    rcases hA14 with h | h
    ·exact NV13.out b o (h▸q)
    ·have:=h b o q; omega)
   have HV14:=Lib.hid ((b14.block _ (Array.getElem?_eq_some_iff.1 HV13.out).1).trans HV13.out)
   have HH14:=S3 _ ((S4 _ hHeld13).trans (b14.mono (S4 _ hHeld13).size))
   clear hs14 hA14 ho14 b14
   refine hK.out _ _ HH14 (fun hHeld14=>?_)
   clear hK Kx HH14
   refine wt 7 (.tuple #[.agg #[.int .i64 r.1.gen,.slice a14 r.1.regs.length c14,.int .i64 r.1.typ,.int .i64 r.1.holder,.bool r.1.stays],v14,errV r.2.2]) hHeld14 ?_
   go_simp
   refine wt 8 (.agg #[.int .i64 r.1.gen,.slice a14 r.1.regs.length c14,.int .i64 r.1.typ,.int .i64 r.1.holder,.bool r.1.stays]) hHeld14 ?_
   go_simp
   refine wt 9 (v14) hHeld14 ?_
   go_simp
   refine wt 10 (errV r.2.2) hHeld14 ?_
   go_simp
   refine wpAnyH_ready (rs:=[12]) (by kernel_rfl) (by simp) ?_
   refine AllReadyH.cons (o:=_) rfl (fun Kx hK=>?_) AllReadyH.nil
   obtain ⟨⟨y0,y1,y2,y3,y4⟩,z0,z1,z2,z3,z4⟩:=cells5 HV14.out
   go_simp
   clear y0 y1 y2 y3 y4 z0 z1 z2 z3 z4
   have OC15:=Lib.hid (ocut_fin (c:=c14) (S4 _ hHeld14) HL12 HV14.out HS14.out FR14.out NV14.out HO14.out)
   have HH15:=S3 _ OC15.out.2
   refine hK.out _ _ HH15 (fun hHeld15=>?_)
   clear hK Kx HH15
   refine wpAnyH_ready (rs:=[13]) (by kernel_rfl) (by simp) ?_
   refine AllReadyH.cons (o:=_) rfl (fun Kx hK=>?_) AllReadyH.nil
   go_simp
   have HH16:=hHeld15
   refine hK.out _ _ HH16 (fun hHeld16=>?_)
   clear hK Kx HH16
   refine wpAnyH_ready (rs:=[14]) (by kernel_rfl) (by simp) ?_
   refine AllReadyH.cons (o:=_) rfl (fun Kx hK=>?_) AllReadyH.nil
   go_simp
   have HH17:=hHeld16
   refine hK.out _ _ HH17 (fun hHeld17=>?_)
   clear hK Kx HH17
   refine wpAnyH_done (by kernel_rfl) ?_ _
   go_wp2_with fail
   go_meet
   exact ⟨V12,v14,rfl,rfl,rfl,OC15.out.1⟩
 case rest =>
  obtain ⟨w2,rfl⟩:∃ w2:World,w2=wc:=⟨_,rfl⟩
  obtain ⟨V,v,rfl,rfl,rfl,a,cap,hV,hvb,hs,hfa,ho,hb⟩:=hcut
  have HVB:=Lib.hid hvb
  have HS:=Lib.hid hs
  have FA:=Lib.hid hfa
  have HO:=Lib.hid ho
  have B2:=Lib.hid hb
  have VLT:=(Array.getElem?_eq_some_iff.1 hvb).1
  clear hvb hs hfa ho hb SC STA CB DO hT
  have SY2:=Lib.hid (show Same Y w w2 from SY1.out.trans (fun b hb=>B2.out.block b (H1.out.lt_y b hb)))
  by_cases hz:r.2.2=0
  case neg =>
   have E:=Lib.hid (OR.out.trans (if_pos hz))
   rw [errV_some hz]
   have HZ:=Lib.hid hz
   clear hz OR
   go_wp2
   go_ret
   rw [E.out]
   exact ⟨by rw [errV_some HZ.out]; rfl,H1.out.over B2.out,SY2.out⟩
  have OR2:=Lib.hid (OR.out.trans (if_neg (fun h=>h hz)))
  rw [hz,errV_nil]
  clear hz OR
  obtain ⟨Z,hZ⟩:∃ Z:Nat→Prop,Z=fun c=>Y c∨(w1.heap.size≤c∧c<w2.heap.size):=⟨_,rfl⟩
  have HZ:=Lib.hid (show TgR w0 n D T t Z w2 from hZ▸H1.out.more B2.out)
  have ZY:=Lib.hid (show ∀ b,Y b→Z b from fun b hb=>hZ▸Or.inl hb)
  have ZN:=Lib.hid (show ∀ b,w1.heap.size≤b→b<w2.heap.size→Z b from fun b h1 h2=>hZ▸Or.inr ⟨h1,h2⟩)
  clear hZ H1
  obtain ⟨LB,hLB⟩:∃ LB,lessB pmay t.k.s r.1=LB:=⟨_,rfl⟩
  rw [hLB] at OR2
  have LESS:=Lib.hid (show ∀ w',RowKit.Below w2.heap.size w2 w'→∀ x y,StR w' t.k.s x→Calls Tryz.prog 95 #[stV t.k.s x y,.agg #[.int .i64 r.1.gen,.slice a r.1.regs.length cap,.int .i64 r.1.typ,.int .i64 r.1.holder,.bool r.1.stays],.func (.func 32) #[] #[]] w' fun e w''=>e=.returned (.bool LB)∧RowKit.Below w'.heap.size w' w'' from fun w' b x y h=>by
   have q:=less_any t.k.s r.1 x a y cap w' h (HS.out.below b)
   rw [hLB] at q
   exact q)
  have HLB:=Lib.hid hLB
  clear hLB
  obtain ⟨X2,m2,ki,tb,lo,hy⟩:=HZ.out
  have hT:=(Array.getElem?_eq_some_iff.1 tb.blk).1
  have SC:=Lib.hid (fun w' (b:RowKit.Below w2.heap.size w2 w')=>(b.cell (p:=⟨T,0,none⟩) hT).trans (tg_cells tb.blk tb.ok).1.1)
  have VB:=Lib.hid (show ∀ w',RowKit.Below w2.heap.size w2 w'→(w'.cell? ⟨V,0,none⟩=some (.int .i64 r.1.gen)∧w'.cell? ⟨V,1,none⟩=some (.slice a r.1.regs.length cap)∧w'.cell? ⟨V,2,none⟩=some (.int .i64 r.1.typ)∧w'.cell? ⟨V,3,none⟩=some (.int .i64 r.1.holder)∧w'.cell? ⟨V,4,none⟩=some (.bool r.1.stays)) from fun w' b=>(cells5 ((b.block V VLT).trans HVB.out)).1)
  have STA:=Lib.hid (fun w' (b:RowKit.Below w2.heap.size w2 w')=>stateI3 n w0 w' X2 D m2.K t.k (ki.over b) (by have:=GD.out.regs_len; omega))
  clear ki tb lo hy
  obtain ⟨m,hm⟩:∃ m,m2=m:=⟨_,rfl⟩
  rw [hm] at SC STA
  clear hm
  go_upto_region 4 with fail
  go_cut [30] (fun v wx=>v=.bool LB∧RowKit.Below w2.heap.size w2 wx)
  case first =>
   obtain ⟨S,hS⟩:∃ S:World→Prop,S=fun w'=>RowKit.Below w2.heap.size w2 w':=⟨_,rfl⟩
   have S3:∀ w',RowKit.Below w2.heap.size w2 w'→S w':=fun w' h=>by rw [hS]; exact h
   have S4:∀ w',S w'→RowKit.Below w2.heap.size w2 w':=fun w' h=>by rw [hS] at h; exact h
   clear hS
   refine wp_region_held_drew (S:=S) (by kernel_rfl) (S3 _ (Below.refl _ _).drew) (fun hHeld=>?_)
   obtain ⟨wd,hwd⟩:∃ wd,wd=w2.drew:=⟨_,rfl⟩
   rw [← hwd] at hHeld ⊢
   clear hwd
   refine wt 0 (.pointer (some ⟨T,0,none⟩)) hHeld ?_
   go_simp
   refine wt 1 (.pointer (some ⟨T,0,none⟩)) hHeld ?_
   go_simp
   refine wt 2 (.pointer (some ⟨T,0,none⟩)) hHeld ?_
   go_simp
   refine wt 3 (.pointer (some ⟨m.K,0,none⟩)) hHeld ?_ (hy:=Or.inl ⟨by rfl,fun w' hSw=>by have hc:=SC.out w' (S4 w' hSw); go_simp⟩)
   go_simp
   refine wt 5 (.agg #[.int .i64 r.1.gen,.slice a r.1.regs.length cap,.int .i64 r.1.typ,.int .i64 r.1.holder,.bool r.1.stays]) hHeld ?_ (hy:=Or.inl ⟨by rfl,fun w' hSw=>by obtain ⟨q0,q1,q2,q3,q4⟩:=VB.out w' (S4 w' hSw); go_simp⟩)
   go_simp
   refine wpAnyH_ready (rs:=[4]) (by kernel_rfl) (by simp) ?_
   refine AllReadyH.cons (o:=_) rfl (fun Kx hK=>?_) AllReadyH.nil
   go_simp
   refine (STA.out _ (S4 _ hHeld)).mono ?_
   rintro e w1_ ⟨x1,y1,rfl,hs1,b1,fr1⟩
   have HS1:=Lib.hid hs1
   have HH1:=S3 _ ((S4 _ hHeld).trans (b1.mono (S4 _ hHeld).size))
   clear hs1 b1 fr1
   refine hK.out _ _ HH1 (fun hHeld1=>?_)
   clear hK Kx HH1
   refine wpAnyH_ready (rs:=[6]) (by kernel_rfl) (by simp) ?_
   refine AllReadyH.cons (o:=_) rfl (fun Kx hK=>?_) AllReadyH.nil
   go_simp
   refine (LESS.out _ (S4 _ hHeld1) _ _ HS1.out).mono ?_
   rintro e w2_ ⟨rfl,b2⟩
   have HH2:=S3 _ ((S4 _ hHeld1).trans (b2.mono (S4 _ hHeld1).size))
   clear b2
   refine hK.out _ _ HH2 (fun hHeld2=>?_)
   clear hK Kx HH2
   refine wpAnyH_done (by kernel_rfl) ?_ _
   go_wp2_with fail
   go_meet
   exact ⟨rfl,S4 _ hHeld2⟩
  case rest =>
  obtain ⟨w3,rfl⟩:∃ w3:World,w3=wc:=⟨_,rfl⟩
  obtain ⟨rfl,b3⟩:=hcut
  have B3:=Lib.hid b3
  have H3:=Lib.hid (show TgR w0 n D T t Z w3 from HZ.out.over b3)
  have S3:=Lib.hid (show StR w3 r.1 a from HS.out.below b3)
  have SZ3:=Lib.hid (show Same Z w2 w3 from fun b hb=>b3.block b (HZ.out.lt_y b hb))
  have AZ:=Lib.hid (show ∀ b o,a=some ⟨b,o,none⟩→r.1.regs≠[]→Z b from fun b o e hne=>ZN.out b (FA.out b o e) (by
   have hs:=HS.out
   rw [e] at hs
   exact StR.blt hs hne))
  have BX:=Lib.hid (VB.out w3 b3)
  clear b3 LESS STA SC VB HZ
  obtain ⟨x,hx⟩:∃ x,(if LB=true then t.next n r.1 else t.keep n t.k.ep r.1)=x:=⟨_,rfl⟩
  rw [hx] at OR2
  go_upto_if 30 with fail
  go_cut [7] (fun v wx=>v=errV x.2∧TgR w0 n D T x.1 Z wx∧Same Z w3 wx)
  case first =>
   cases LB
   ·rw [if_neg (by decide)] at hx
    have EP:=HN.out.kg.kd.place.k.e0
    obtain ⟨X3,m3,ki3,tb3,lo3,hy3⟩:=H3.out
    have C0:=Lib.hid (show w3.drew.cell? ⟨T,0,none⟩=some (.pointer (some ⟨m3.K,0,none⟩)) from (tg_cells tb3.blk tb3.ok).1.1)
    have BXD:=Lib.hid (show (w3.drew.cell? ⟨V,0,none⟩=some (.int .i64 r.1.gen)∧w3.drew.cell? ⟨V,1,none⟩=some (.slice a r.1.regs.length cap)∧w3.drew.cell? ⟨V,2,none⟩=some (.int .i64 r.1.typ)∧w3.drew.cell? ⟨V,3,none⟩=some (.int .i64 r.1.holder)∧w3.drew.cell? ⟨V,4,none⟩=some (.bool r.1.stays)) from BX.out)
    have EPD:=Lib.hid (show Calls Tryz.prog 62 #[.pointer (some ⟨m3.K,0,none⟩)] w3.drew fun e w'=>e=.returned (.int .i64 t.k.ep)∧w'=w3.drew from epochI n w0 w3.drew X3 D m3.K t.k ki3.drew)
    obtain ⟨r2,hr2⟩:∃ r2,t.k.keep n t.k.ep r.1=r2:=⟨_,rfl⟩
    have KP:=Lib.hid (show Calls Tryz.prog 96 #[.pointer (some ⟨m3.K,0,none⟩),.int .i64 t.k.ep,.agg #[.int .i64 r.1.gen,.slice a r.1.regs.length cap,.int .i64 r.1.typ,.int .i64 r.1.holder,.bool r.1.stays]] w3.drew fun e w'=>e=.returned (errV r2.2)∧KI n w0 X3 D m3.K r2.1 w'∧Same X3 w3.drew w' from by
     have q:=keepI n w0 w3.drew X3 D m3.K t.k a cap t.k.ep r.1 ki3.drew HN.out.kg.kd.ok (by rw [HN.out.kg.kd.wait]; simp) HN.out.kg.kd.n6 (by have:=HN.out.kg.kd.p1; omega) (by have:=HN.out.num; omega) (S3.out.below (Below.refl _ _).drew) TT.out
     rw [hr2] at q
     exact q)
    have VZ:=Lib.hid (show X3 V from (hy3 V (ZN.out V hV VLT)).1)
    have TB3:=Lib.hid tb3
    have LO3:=Lib.hid lo3
    have HY3:=Lib.hid hy3
    have XE:=Lib.hid (show x=({ t with k:=r2.1 },r2.2) from by rw [← hx,← hr2]; rfl)
    clear hr2 hx ki3 tb3 lo3 hy3
    go_upto_region 6 with fail
    go_region_held3 (fun w'=>w'.cell? ⟨T,0,none⟩=some (.pointer (some ⟨m3.K,0,none⟩))∧w'.cell? ⟨V,0,none⟩=some (.int .i64 r.1.gen)∧w'.cell? ⟨V,1,none⟩=some (.slice a r.1.regs.length cap)∧w'.cell? ⟨V,2,none⟩=some (.int .i64 r.1.typ)∧w'.cell? ⟨V,3,none⟩=some (.int .i64 r.1.holder)∧w'.cell? ⟨V,4,none⟩=some (.bool r.1.stays))
     (first | exact ⟨C0.out,BXD.out⟩ | assumption)
     (first | ((with_reducible refine EPD.out.mono ?_); rintro e w8 ⟨rfl,rfl⟩) | ((with_reducible refine KP.out.mono ?_); rintro e w8 ⟨rfl,ki8,sm8⟩; have c8:=And.intro ((World.cell?_of_block (a:=⟨T,0,none⟩) (sm8 T TB3.out.xt)).trans C0.out) ((box_same (sm8 V VZ.out) BXD.out))))
    have P:=Lib.hid (show TgR w0 n D T x.1 Z w8∧Same Z w3 w8 from by
     rw [XE.out]
     exact ⟨⟨X3,m3,ki8,(TB3.out.same (w':=w8) (fun b hb=>sm8 b hb) ki8.lt).setK r2.1,LO3.out,HY3.out⟩,fun b hb=>sm8 b (HY3.out b hb).1⟩)
    clear ki8 sm8 c8
    go_wp2_with fail
    go_meet
    exact ⟨by rw [XE.out],P.out.1,P.out.2⟩
   ·rw [if_pos rfl] at hx
    obtain ⟨y0,y1,y2,y3,y4⟩:=BX.out
    have NX:=Lib.hid (next_any w0 w3 n D T t Z r.1 a cap H3.out HN.out S3.out AZ.out TT.out)
    rw [hx] at NX
    clear hx
    go_upto_region 5 with fail
    go_wp2_with fail
    refine NX.out.mono ?_
    rintro e w4 ⟨rfl,h4,sm4,-⟩
    go_wp2_with fail
    go_meet
    exact ⟨rfl,h4,sm4⟩
  case rest =>
  obtain ⟨w5,rfl⟩:∃ w5:World,w5=wc:=⟨_,rfl⟩
  obtain ⟨rfl,h5,sm5⟩:=hcut
  have H5:=Lib.hid h5
  have SZ5:=Lib.hid (SZ3.out.trans sm5)
  have SY5:=Lib.hid (show Same Y w w5 from SY2.out.trans (fun b hb=>SZ5.out b (ZY.out b hb)))
  clear h5 sm5 hx H3 S3 AZ BX B3 SZ3 HS FA HVB
  by_cases hxz:x.2=0
  case neg =>
   have E:=Lib.hid (OR2.out.trans (if_pos hxz))
   rw [errV_some hxz]
   have HXZ:=Lib.hid hxz
   clear hxz OR2
   go_wp2
   go_ret
   rw [E.out]
   exact ⟨by rw [errV_some HXZ.out]; rfl,H5.out.less ZY.out,SY5.out⟩
  have OR3:=Lib.hid (OR2.out.trans (if_neg (fun h=>h hxz)))
  rw [hxz,errV_nil]
  clear hxz OR2
  obtain ⟨LT,hLT⟩:∃ LT,r.2.1=LT:=⟨_,rfl⟩
  rw [hLT] at HO WHO OR3
  clear hLT
  have LTB:LT.length≤9223372036854775807:=by
   obtain ⟨-,h | ⟨g,cap,cur,e1,e2,e3,e4,e5,-⟩⟩:=HO.out
   ·omega
   ·unfold maxLen at e5; omega
  obtain ⟨la,lc,rfl,-⟩:=HO.out.shape
  have VOZ:=Lib.hid (show ∀ b,(Value.slice la LT.length lc).ownBlock=some b→Z b from fun b e=>ZN.out b (World.ownsRow.lt HO.out b e).1 (World.ownsRow.lt HO.out b e).2)
  go_wp2
  go_loopw [9,50] (fun u i wr=>∃ k:Nat,k≤LT.length∧i=.int .i64 k∧TgR w0 n D T { x.1 with b:=x.1.b.adds (LT.take k) } Z wr∧Same Z w5 wr) (fun _ i _=>LT.length - (intOf i).toNat)
  case atStart=>exact ⟨0,by omega,rfl,H5.out,fun _ _=>rfl⟩
  case round =>
  obtain ⟨k,hk,rfl,hR,hSm⟩:=hrel
  by_cases hlt:k<LT.length
  ·obtain ⟨X,m,ki,tb,lo,hy⟩:=hR
   have HSm:=Lib.hid hSm
   have OT:OwnT w1.heap.size wr (.slice la LT.length lc) LT:=ownsRow_same HO.out (fun b e=>(SZ5.out.trans hSm) b (VOZ.out b e))
   have cells:∃ g o,la=some ⟨g,o,none⟩∧wr.cell? ⟨g,o+k*2,none⟩=some (.int .i64 LT[k].1)∧wr.cell? ⟨g,o+k*2+1,none⟩=some (.int .i64 LT[k].2):=by
    obtain ⟨la',lc',e,hp⟩:=OT.shape
    obtain ⟨rfl,rfl⟩:la=la'∧lc=lc':=by simpa using e
    obtain ⟨g,o,e,_,c1,c2⟩:=hp k hlt
    exact ⟨g,o,e,c1,c2⟩
   obtain ⟨g,o,rfl,c1,c2⟩:=cells
   obtain ⟨p,hp⟩:∃ p,LT[k]=p:=⟨_,rfl⟩
   rw [hp] at c1 c2
   have PW:=Lib.hid (show 1≤p.1∧p.1≤4 from hp▸WHO.out _ (List.getElem_mem hlt))
   have TK:=Lib.hid (show LT.take (k+1)=LT.take k ++ [p] from by rw [← hp]; exact List.take_succ_eq_append_getElem hlt)
   clear OT hSm hp
   obtain ⟨w6,hw6⟩:∃ w6,w6=wr.alloc (.cells #[.int .i64 p.1,.int .i64 p.2] 162):=⟨_,rfl⟩
   have B6:=Lib.hid (show RowKit.Below wr.heap.size wr w6 from hw6▸bal wr _)
   have R6:=Lib.hid (show w6.heap[wr.heap.size]?=some (.cells #[.int .i64 p.1,.int .i64 p.2] 162 (0,0)) from hw6▸heap_alloc_new wr _)
   have A6:=(Array.getElem?_eq_some_iff.1 R6.out).1
   have TB6:=Lib.hid (tb.same (ki.same_of B6.out) (ki.over B6.out).lt)
   have KI6:=Lib.hid (ki.over B6.out)
   have LO:=Lib.hid lo
   have HY:=Lib.hid hy
   have hT6:=(Array.getElem?_eq_some_iff.1 TB6.out.blk).1
   have BTS:=Lib.hid (show ∀ w',RowKit.Below w6.heap.size w6 w'→(w'.cell? ⟨T,79,none⟩=some m.b.s1.v∧w'.cell? ⟨T,80,none⟩=some m.b.s2.v∧w'.cell? ⟨T,81,none⟩=some m.b.s3.v∧w'.cell? ⟨T,82,none⟩=some m.b.s4.v)∧w'.frozen? ⟨T,79,none⟩=false∧w'.frozen? ⟨T,80,none⟩=false∧w'.frozen? ⟨T,81,none⟩=false∧w'.frozen? ⟨T,82,none⟩=false from fun w' b=>by
    obtain ⟨⟨-,y1,y2,y3,y4,-⟩,-,z1,z2,z3,z4,-⟩:=tg_cells ((b.block T hT6).trans TB6.out.blk) TB6.out.ok
    exact ⟨⟨y1,y2,y3,y4⟩,z1,z2,z3,z4⟩)
   have BX4:=Lib.hid (fun w' b=>(BTS.out w' b).1)
   have ADD:=Lib.hid (show ∀ w',RowKit.Below w6.heap.size w6 w'→Calls Tryz.prog 97 #[.agg #[m.b.s1.v,m.b.s2.v,m.b.s3.v,m.b.s4.v],.agg #[.int .i64 p.1,.int .i64 p.2]] w' fun e w''=>∃ s:Sl,e=.returned (.agg #[(m.b.set p.1 s).s1.v,(m.b.set p.1 s).s2.v,(m.b.set p.1 s).s3.v,(m.b.set p.1 s).s4.v])∧s.ok w''∧s.l=addL (m.b.get p.1).l p.2∧RowKit.Below w'.heap.size w' w''∧(s=m.b.get p.1∨HiI w'.heap.size w'' s.a s.l) from fun w' b=>add_any2 m.b p.1 p.2 w' (TB6.out.boxOk.below b) PW.out)
   have KEEPC:=Lib.hid (show ∀ w',RowKit.Below w6.heap.size w6 w'→w'.cell? ⟨wr.heap.size,0,none⟩=some (.int .i64 p.1)∧w'.cell? ⟨wr.heap.size,1,none⟩=some (.int .i64 p.2) from fun w' b=>by
    have q:=(b.block _ A6).trans R6.out
    simp [World.cell?,q])
   have AT:wr.heap.size≠T:=fun e=>by have:=ki.lt T tb.xt; omega
   have KEEPS:=Lib.hid (show ∀ w',RowKit.Below w6.heap.size w6 w'→∀ bx,(set4W w' T bx).cell? ⟨wr.heap.size,0,none⟩=some (.int .i64 p.1)∧(set4W w' T bx).cell? ⟨wr.heap.size,1,none⟩=some (.int .i64 p.2) from fun w' b bx=>by
    have q:=((set4_keeps (X:=(·=T)) w' rfl bx).block _ AT (Nat.lt_of_lt_of_le A6 b.size)).trans ((b.block _ A6).trans R6.out)
    simp [World.cell?,q])
   have PUTB:=Lib.hid (show ∀ w',RowKit.Below w6.heap.size w6 w'→∀ s:Sl,s.ok w'→s.l=addL (m.b.get p.1).l p.2→(s=m.b.get p.1∨HiI w6.heap.size w' s.a s.l)→TgR w0 n D T { x.1 with b:=x.1.b.adds (LT.take (k+1)) } Z (set4W w' T (m.b.set p.1 s))∧Same Z w5 (set4W w' T (m.b.set p.1 s)) from fun w' b s hs hl hh=>by
    have q:=TgR.setBox1 KI6.out TB6.out LO.out HY.out b PW.out s hs hh
    have e1:(m.b.get p.1).l=(x.1.b.adds (LT.take k)).get p.1:=(TB6.out.box p.1).eq
    have e2:x.1.b.adds (LT.take (k+1))=(x.1.b.adds (LT.take k)).set p.1 s.l:=by
     rw [TK.out,hl,e1]
     unfold Bl.adds
     rw [List.foldl_append]
     rfl
    rw [e2]
    exact ⟨q.1,fun c hc=>(q.2.1 c hc).trans ((B6.out.block c (ki.lt c (HY.out c hc).1)).trans (HSm.out c hc))⟩)
   unfold set4W at KEEPS
   clear ki tb lo hy AT hT6
   go_upto_region 12 with fail
   rw [← hw6]
   clear hw6 c1 c2
   obtain ⟨S,hS⟩:∃ S:World→Prop,S=fun w'=>w'.cell? ⟨wr.heap.size,0,none⟩=some (.int .i64 p.1)∧w'.cell? ⟨wr.heap.size,1,none⟩=some (.int .i64 p.2):=⟨_,rfl⟩
   have S3:∀ w',(w'.cell? ⟨wr.heap.size,0,none⟩=some (.int .i64 p.1)∧w'.cell? ⟨wr.heap.size,1,none⟩=some (.int .i64 p.2))→S w':=fun w' h=>by rw [hS]; exact h
   have S4:∀ w',S w'→(w'.cell? ⟨wr.heap.size,0,none⟩=some (.int .i64 p.1)∧w'.cell? ⟨wr.heap.size,1,none⟩=some (.int .i64 p.2)):=fun w' h=>by rw [hS] at h; exact h
   clear hS
   refine wp_region_held_drew (S:=S) (by kernel_rfl) (S3 _ (KEEPC.out _ (Below.refl _ _).drew)) (fun hHeld=>?_)
   obtain ⟨wd,hwd⟩:∃ wd,wd=w6.drew:=⟨_,rfl⟩
   rw [← hwd] at hHeld ⊢
   have bd:RowKit.Below w6.heap.size w6 wd:=hwd▸(Below.refl _ _).drew
   clear hwd
   refine wt 0 (.pointer (some ⟨T,0,none⟩)) hHeld ?_
   go_simp
   refine wt 1 (.pointer (some ⟨T,0,none⟩)) hHeld ?_
   go_simp
   refine wt 2 (.pointer (some ⟨T,0,none⟩)) hHeld ?_
   go_simp
   refine wt 3 (.pointer (some ⟨T,79,none⟩)) hHeld ?_
   go_simp
   refine wt 5 (.agg #[.int .i64 p.1,.int .i64 p.2]) hHeld ?_ (hy:=Or.inl ⟨by rfl,fun w' hSw=>by obtain ⟨q0,q1⟩:=S4 w' hSw; go_simp⟩)
   go_simp
   refine wpAnyH_ready (rs:=[4]) (by kernel_rfl) (by simp) ?_
   refine AllReadyH.cons (o:=_) rfl (fun Kx hK=>?_) AllReadyH.nil
   obtain ⟨y1,y2,y3,y4⟩:=BX4.out _ bd
   go_simp
   clear y1 y2 y3 y4
   have HH1:=hHeld
   refine hK.out _ _ HH1 (fun hHeld1=>?_)
   clear hK Kx HH1
   refine wpAnyH_ready (rs:=[6]) (by kernel_rfl) (by simp) ?_
   refine AllReadyH.cons (o:=_) rfl (fun Kx hK=>?_) AllReadyH.nil
   go_simp
   refine (ADD.out _ bd).mono ?_
   rintro e w2_ ⟨s2,rfl,hs2,hl2,b2,hh2⟩
   have bq2:RowKit.Below w6.heap.size w6 w2_:=bd.trans (b2.mono bd.size)
   have HH2:=S3 _ (KEEPC.out _ bq2)
   have PUT:=Lib.hid (PUTB.out w2_ bq2 s2 hs2 hl2 (hh2.imp id (fun h=>h.mono bd.size)))
   have BT:=Lib.hid (BTS.out w2_ bq2)
   clear hs2 hl2 b2 hh2
   refine hK.out _ _ HH2 (fun hHeld2=>?_)
   clear hK Kx HH2
   refine wt 7 (.pointer (some ⟨T,0,none⟩)) hHeld2 ?_
   go_simp
   refine wt 8 (.pointer (some ⟨T,79,none⟩)) hHeld2 ?_
   go_simp
   refine wpAnyH_ready (rs:=[9]) (by kernel_rfl) (by simp) ?_
   refine AllReadyH.cons (o:=_) rfl (fun Kx hK=>?_) AllReadyH.nil
   obtain ⟨⟨y1,y2,y3,y4⟩,z1,z2,z3,z4⟩:=BT.out
   go_simp
   clear y1 y2 y3 y4 z1 z2 z3 z4
   have HH3:=S3 _ (KEEPS.out _ bq2 (m.b.set p.1 s2))
   refine hK.out _ _ HH3 (fun hHeld3=>?_)
   clear hK Kx HH3
   refine wpAnyH_done (by kernel_rfl) ?_ _
   have Q1:=PUT.out
   unfold set4W at Q1
   have Q2:=Lib.hid Q1
   clear Q1 PUT BT
   go_wp2
   go_roundw
   case rel=>exact ⟨k+1,by omega,by go_num,Q2.out.1,Q2.out.2⟩
   case measure=>simp [intOf]; omega
  ·have hkl:k=LT.length:=by omega
   subst hkl
   rw [List.take_length] at hR
   have HR:=Lib.hid hR
   have HSm:=Lib.hid hSm
   clear hR hSm
   go_wp2
   go_ret
   rw [OR3.out]
   exact ⟨rfl,HR.out.less ZY.out,SY5.out.trans (fun b hb=>HSm.out b (ZY.out b hb))⟩
end
end Go.Proofs.YtajegiifabfcjaaGreatDoor
