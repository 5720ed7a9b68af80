/-
  Tgm9, TgmA, TgmB
-/
import Derived.Test.YtajegiifabfcjaaGreatDoorQ26
import Derived.Deep.RegionLaw
import Derived.BigQuiet
import Derived.Lib.QuietBelow
import Derived.Deep.DeepCutAuto
namespace Go.Proofs.YtajegiifabfcjaaGreatDoor
open Go.RowKit Go.Sort
def zeroM:List Value:=[.int .i64 0,.int .i64 0,.int .i64 0,.int .i64 0,.string ⟨#[]⟩,.int .i64 0]
theorem putL_split:∀ (vs a b c:List Value),b.length=vs.length→putL (a ++ b ++ c) a.length vs=a ++ vs ++ c:=by
 intro vs a b c h
 have e1:=putL_right vs a (b ++ c) 0
 have e2:=putL_left vs b c 0 (by omega)
 rw [putL_all h] at e2
 rw [Nat.add_zero,e2] at e1
 rw [List.append_assoc,e1,List.append_assoc]
theorem putL_take (l vs:List Value) (k:Nat) (h:k+vs.length≤l.length):(putL l k vs).take (k+vs.length)=l.take k ++ vs:=by
 have e:l=l.take k ++ (l.drop k).take vs.length ++ (l.drop k).drop vs.length:=by rw [List.append_assoc,List.take_append_drop,List.take_append_drop]
 have hk:(l.take k).length=k:=by simp; omega
 have e2:=putL_split vs (l.take k) ((l.drop k).take vs.length) ((l.drop k).drop vs.length) (by simp; omega)
 rw [← e,hk] at e2
 rw [e2,List.take_left' (by simp; omega)]
theorem putL_take_lt (l vs:List Value) (k m:Nat) (h:k+vs.length≤l.length) (hm:m≤k):(putL l k vs).take m=l.take m:=by
 have e:l=l.take k ++ (l.drop k).take vs.length ++ (l.drop k).drop vs.length:=by rw [List.append_assoc,List.take_append_drop,List.take_append_drop]
 have hk:(l.take k).length=k:=by simp; omega
 have e2:=putL_split vs (l.take k) ((l.drop k).take vs.length) ((l.drop k).drop vs.length) (by simp; omega)
 rw [← e,hk] at e2
 rw [e2,List.append_assoc,List.take_append_of_le_length (by omega),List.take_take,Nat.min_eq_left hm]
theorem run_clear_msg (w:World) (g o c:Nat) (ty:TypeId) (hc:∀ j,j<6→(w.cell? ⟨g,o+j,none⟩).isSome=true) (hf:∀ j,j<6→w.frozen? ⟨g,o+j,none⟩=false) :
  (Builtin.clear_ #[71] ty #[.slice (some ⟨g,o,none⟩) 1 c]).run Tryz.prog w=.ok (.tuple #[]) (w.setCells g o zeroM):=by
 have hv:∀ w,(zeroValue 125).run Tryz.prog w=.ok (.agg zeroM.toArray) w:=fun w=>by kernel_rfl
 have hst:=run_storeCells_cells (P:=Tryz.prog) g o zeroM 0 w (by simpa [zeroM] using hc) (by simpa [zeroM] using hf) (fun v hv'=>by
  simp only [zeroM,List.mem_cons,List.mem_nil_iff,or_false] at hv'
  rcases hv' with h | h | h | h | h | h <;> subst h <;> rfl)
 simp only [Nat.add_zero] at hst
 have hz:(Builtin.zeroCells zeroM.toArray 1).toList=zeroM:=by kernel_rfl
 simp [Builtin.clear_,run_underlying Tryz.underlying71,hv,Value.cells,hz,hst]
set_option maxRecDepth 100000 in
set_option maxHeartbeats 4000000 in
theorem delete_msg (B:Nat) (l:List Ms) (a:Option Addr) (cap i j:Nat) (w:World) (hl:l.length≤1000) (h:OwnM B w (.slice a l.length cap) l) (hi:i<l.length) (hj:j=i+1) :
  Calls Tryz.prog 79 #[.slice a l.length cap,.int .i64 i,.int .i64 j] w fun e w'=>∃ g,a=some ⟨g,0,none⟩∧B≤g∧g<w.heap.size∧e=.returned (.slice (some ⟨g,0,none⟩) (l.length - 1) cap)∧OwnM B w' (.slice (some ⟨g,0,none⟩) (l.eraseIdx i).length cap) (l.eraseIdx i)∧Keeps (·=g) w w':=by
 obtain ⟨i0,hi0,hz0,hz1,hz2⟩:=info_parts Tryz.infoMsg
 obtain ⟨-,h2 | ⟨g,cap',cur,e1,hBg,hg,hnc,hcm,hcs,htk⟩⟩:=h
 ·omega
 obtain ⟨rfl,rfl⟩:a=some ⟨g,0,none⟩∧cap=cap':=by simpa using e1
 have hglt:g<w.heap.size:=(Array.getElem?_eq_some_iff.1 hg).1
 have hlen:(flyL l).length=l.length*6:=flyL_length l
 obtain ⟨news,hnews⟩:∃ news,news=flyL (l.drop j):=⟨_,rfl⟩
 have nlen:news.length=(l.length - j)*6:=by rw [hnews,flyL_length]; simp
 have cat:∀ k,k<l.length*6→w.cell? ⟨g,k,none⟩=(flyL l)[k]?:=fun k hk=>by
  rw [cell_of_row _ _ _ _ _ _ hg,← htk,List.getElem?_take,if_pos hk]
  simp
 have isome:∀ k,k<cap*6→(w.cell? ⟨g,k,none⟩).isSome=true:=fun k hk=>by
  rw [cell_of_row _ _ _ _ _ _ hg]
  simp; omega
 have frz:∀ k,w.frozen? ⟨g,k,none⟩=false:=fun k=>by simp [World.frozen?,hg]
 obtain ⟨A,hA,hsrc⟩:∃ A:Addr,(if cap=j then some (⟨g,0,none⟩:Addr) else some ⟨g,j*6,none⟩)=some A∧Hid (∀ t u,news[t]?=some u→w.drew.cell? (A.add t)=some u):=by
  by_cases hcj:cap=j
  ·refine ⟨⟨g,0,none⟩,by simp [hcj],fun t u hu=>?_⟩
   have h0:news.length=0:=by rw [nlen]; omega
   rw [List.length_eq_zero_iff.1 h0] at hu
   simp at hu
  ·refine ⟨⟨g,j*6,none⟩,by simp [hcj],fun t u hu=>?_⟩
   have ht:t<(l.length - j)*6:=by
    have:=(List.getElem?_eq_some_iff.1 hu).1
    rwa [nlen] at this
   rw [Addr.add_lit]
   show w.cell? ⟨g,j*6+t,none⟩=some u
   rw [cat _ (by omega),← hu,hnews,← flyL_drop,List.getElem?_drop]
 have s1:Hid (news.length=(l.length - j)*6):=nlen
 have s2:Hid (∀ u∈news,u.oneCell'=true):=by
  rw [hnews]
  exact flyL_one _
 have s3:Hid (∀ t,t<news.length→(w.drew.cell? ⟨g,0+i*6+t,none⟩).isSome=true∧w.drew.frozen? ⟨g,0+i*6+t,none⟩=false):=by
  intro t ht
  rw [nlen] at ht
  exact ⟨isome (0+i*6+t) (by omega),frz _⟩
 obtain ⟨W1,hW1⟩:∃ W1,W1=w.drew.setCells g (0+i*6) news:=⟨_,rfl⟩
 have HB1:W1.heap[g]?=some (.cells (putL cur.toList (i*6) news).toArray 125 (0,0)):=by
  rw [hW1,Nat.zero_add]
  exact block_setCells news (i*6) w.drew cur hg
 have KP1:Keeps (·=g) w W1:=by
  rw [hW1]
  exact Keeps.setCells (S:=(·=g)) rfl news _ w w.drew (Keeps.refl _ _).drew
 have hsz1:(putL cur.toList (i*6) news).length=cap*6:=by rw [putL_length]; simpa using hcs
 have hcl:∀ ty,(Builtin.clear_ #[71] ty #[.slice (some ⟨g,(i+(l.length - j))*6,none⟩) (l.length - (i+(l.length - j))) (cap - (i+(l.length - j)))]).run Tryz.prog W1=.ok (.tuple #[]) (W1.setCells g ((i+(l.length - j))*6) zeroM):=fun ty=>by
  rw [show l.length - (i+(l.length - j))=1 by omega]
  exact run_clear_msg W1 g _ _ ty (fun k hk=>by
   rw [cell_of_row _ _ _ _ _ _ HB1]
   simp [hsz1]; omega) (fun k _=>by simp [World.frozen?,HB1])
 obtain ⟨W2,hW2⟩:∃ W2,W2=W1.setCells g ((i+(l.length - j))*6) zeroM:=⟨_,rfl⟩
 have P:=Lib.hid (show OwnM B W2 (.slice (some ⟨g,0,none⟩) (l.eraseIdx i).length cap) (l.eraseIdx i)∧Keeps (·=g) w W2 from by
  have hel:(l.eraseIdx i).length=l.length - 1:=by rw [List.length_eraseIdx,if_pos hi]
  refine ⟨⟨by rw [flyL_length],.inr ⟨g,cap,_,rfl,hBg,(hW2▸block_setCells zeroM _ W1 _ HB1),by omega,hcm,by simp [putL_length,hsz1],?_⟩⟩,hW2▸Keeps.setCells (S:=(·=g)) rfl zeroM _ w W1 KP1⟩
  have z6:zeroM.length=6:=rfl
  rw [show (i+(l.length - j))*6=(l.eraseIdx i).length*6 by rw [hel]; omega]
  show (putL (putL cur.toList (i*6) news) ((l.eraseIdx i).length*6) zeroM).take _=_
  rw [putL_take_lt _ _ _ _ (by rw [hsz1,z6,hel]; omega) (Nat.le_refl _),hel,show (l.length - 1)*6=i*6+news.length by rw [nlen]; omega,putL_take _ _ _ (by rw [nlen]; simp [hcs]; omega),flyL_erase,hnews,← flyL_drop,← hj,← htk,List.take_take,Nat.min_eq_left (by omega)])
 have hW:Hid (W1=w.drew.setCells g (0+i*6) news):=hW1
 have HW2:=Lib.hid hW2
 have HA:=hA
 have hic:i≤cap:=by omega
 have hjc:j≤cap:=by omega
 have hij:((i:Int) == (j:Int))=false:=by simp; omega
 have hij2:i≤j:=by omega
 have hcn:¬ cap=i+(l.length - j):=by omega
 have hjl:j≤l.length:=by omega
 clear hW1 hW2 HB1 KP1 hsz1 isome frz cat htk hcs e1 hg nlen hnews hlen HA
 unfold maxLen at hcm
 have HJ:=Lib.hid hj
 clear hj
 go_enter Tryz.func79,Tryz.ntmps79
 go_wp2_with fail
 go_region_law (refine step_append_room rfl (.tmp 22) (.tmp 25) 71 rfl 125 i0 6 Tryz.underlying71 hi0 hz1 g 0 i cap (by simp [Act.eval,Act.put]) A (l.length - j) (cap - j) news (by simp [Act.eval,Act.put]) s1.out hsrc.out s2.out (by have:=HJ.out; omega) s3.out ?_; rw [← hW.out])
 go_wp2
 rw [← HW2.out]
 go_ret
 exact ⟨g,rfl,hBg,hglt,by rw [show l.length - 1=i+(l.length - j) by have:=HJ.out; omega]; rfl,P.out.1,P.out.2⟩
end Go.Proofs.YtajegiifabfcjaaGreatDoor

namespace Go.Proofs.YtajegiifabfcjaaGreatDoor
open Go.RowKit Go.Sort
theorem OwnM.mono {B C:Nat} {w:World} {v:Value} {l:List Ms} (h:OwnM B w v l) (hc:C≤B):OwnM C w v l:=by
 obtain ⟨h1,h2 | ⟨g,cap,cur,e1,e2,e3⟩⟩:=h
 ·exact ⟨h1,.inl h2⟩
 ·exact ⟨h1,.inr ⟨g,cap,cur,e1,Nat.le_trans hc e2,e3⟩⟩
theorem TgB.reFly {X X':Nat→Prop} {w0 w w1:World} {T:Nat} {m:Tm} {t:Tg} (h:TgB X w0 w T m t) (kp0:Keeps (fun b=>∃ o,m.fa=some ⟨b,o,none⟩) w w1) (hX:∀ b,X b→X' b) (fa:Option Addr) (fc:Nat) (l:List Ms) (hf:OwnM w0.heap.size w1 (.slice fa l.length fc) l)
  (hx:∀ b o,fa=some ⟨b,o,none⟩→X' b∧b≠T∧(¬ X b∨∃ o',m.fa=some ⟨b,o',none⟩)) :
  TgB X' w0 (w1.setCell ⟨T,86,none⟩ (.slice fa l.length fc)) T { m with fa:=fa,fc:=fc } { t with fly:=l }:=by
 have own:∀ {b o},m.fa=some ⟨b,o,none⟩→∃ cur,w.heap[b]?=some (.cells cur 125 (0,0)):=fun {b o} e=>by
  obtain ⟨-,h2 | ⟨g,cap,cur,e1,_,e3,_⟩⟩:=h.fly
  ·rw [e] at h2; cases h2.1
  ·rw [e] at e1
   simp only [Value.slice.injEq,Option.some.injEq,Addr.mk.injEq] at e1
   obtain ⟨⟨rfl,_,_⟩,_⟩:=e1
   exact ⟨cur,e3⟩
 have nF:∀ {b es cl},w.heap[b]?=some (.map es cl)→¬ ∃ o,m.fa=some ⟨b,o,none⟩:=fun {b es cl} hm ⟨o,e⟩=>by
  obtain ⟨cur,hc⟩:=own e
  rw [hm] at hc; cases hc
 have tF:¬ ∃ o,m.fa=some ⟨T,o,none⟩:=fun ⟨o,e⟩=>by
  obtain ⟨cur,hc⟩:=own e
  rw [h.blk] at hc
  have e7:(111:Nat)=125:=congrArg (fun o:Option Obj=>match o with | some (.cells _ ty _)=>ty | _=>0) hc
  exact absurd e7 (by decide)
 have hT:=(Array.getElem?_eq_some_iff.1 h.blk).1
 have hb1:=(kp0.block T tF hT).trans h.blk
 have kp:Keeps (·=T) w1 (w1.setCell ⟨T,86,none⟩ (.slice fa l.length fc)):=(Keeps.refl (·=T) w1).setCell (p:=⟨T,86,none⟩) rfl _
 have e1:=tg_set hb1 h.ok 7 (.slice fa l.length fc) (m':={ m with fa:=fa,fc:=fc }) (t':={ t with fly:=l }) rfl rfl rfl
 have nT:∀ {b es cl},w.heap[b]?=some (.map es cl)→b≠T:=fun {b es cl} hm e=>by subst e; rw [h.blk] at hm; cases hm
 have mv:∀ {b:Nat} {l:List (Int × Value)},IMap w b l→IMap (w1.setCell ⟨T,86,none⟩ _) b l:=fun {b l} hm=>by
  obtain ⟨es,cl,h1,h2⟩:=hm
  have hl:=(Array.getElem?_eq_some_iff.1 h1).1
  exact ⟨es,cl,((kp.block b (nT h1) (Nat.lt_of_lt_of_le hl kp0.size)).trans (kp0.block b (nF h1) hl)).trans h1,h2⟩
 refine ⟨e1,h.ok,hX _ h.xt,hX _ h.xw,hX _ h.xn,h.wn,fun k=>?_,mv h.wait,h.wl,fun i h1 h2=>?_,h.apart,?_,fun b o e=>(hx b o e).1,mv h.done⟩
 ·refine ⟨fun i hi=>?_,(h.box k).len,(h.box k).cap,(h.box k).eq⟩
  obtain ⟨c,o,e,hbx,hlt,hc⟩:=(h.box k).ints i hi
  have hcF:¬ ∃ o,m.fa=some ⟨c,o,none⟩:=fun ⟨o,e⟩=>hbx.2.2 o e
  refine ⟨c,o,e,⟨hX _ hbx.1,hbx.2.1,fun o' e'=>?_⟩,Nat.lt_of_lt_of_le (Nat.lt_of_lt_of_le hlt kp0.size) kp.size,((kp.cell hbx.2.1 (Nat.lt_of_lt_of_le hlt kp0.size)).trans (kp0.cell hcF hlt)).trans hc⟩
  rcases (hx c o' e').2.2 with q | q
  ·exact q hbx.1
  ·exact hcF q
 ·obtain ⟨g1,g2,g3,g4⟩:=h.have' i h1 h2
  exact ⟨hX _ g1,g2,g3,mv g4⟩
 ·refine ownsRow_same hf (fun c e=>?_)
  have hc:∃ o,fa=some ⟨c,o,none⟩∧c<w1.heap.size:=by
   obtain ⟨-,h2 | ⟨g,cap,cur,e1,e2,e3,-⟩⟩:=hf
   ·rw [h2.1] at e; cases e
   ·rw [e1] at e
    have:g=c:=by simpa [Value.ownBlock] using e
    subst this
    simp only [Value.slice.injEq] at e1
    exact ⟨0,e1.1,(Array.getElem?_eq_some_iff.1 e3).1⟩
  obtain ⟨o,e2,hlt⟩:=hc
  exact kp.block c (hx c o e2).2.1 hlt
theorem TgR.newFly {w0 w w1:World} {n D T:Nat} {t:Tg} {Y:Nat→Prop} (h:TgR w0 n D T t Y w) (b1:Below w.heap.size w w1) (g cap:Nat) (l:List Ms) (hg:w.heap.size≤g) (ho:OwnM w.heap.size w1 (.slice (some ⟨g,0,none⟩) l.length cap) l) :
  TgPost w0 w n D T { t with fly:=l } Y (w1.setCell ⟨T,86,none⟩ (.slice (some ⟨g,0,none⟩) l.length cap)):=by
 obtain ⟨X,m,ki,tb,lo,hy⟩:=h
 have hT:=(Array.getElem?_eq_some_iff.1 tb.blk).1
 have hgl:g<w1.heap.size:=by
  obtain ⟨-,h2 | ⟨g',cap',cur,e1,e2,e3,-⟩⟩:=ho
  ·cases h2.1
  ·cases e1
   exact (Array.getElem?_eq_some_iff.1 e3).1
 have k1:=ki.all b1
 have lo1:∀ c,(X c∨(w.heap.size≤c∧c<w1.heap.size))→w0.heap.size≤c:=fun c e=>by
  rcases e with e | e
  ·exact lo c e
  ·exact Nat.le_trans ki.below.size e.1
 have tb2:=tb.reFly (X':=fun c=>X c∨(w.heap.size≤c∧c<w1.heap.size)) (Keeps.of_below b1) (fun c e=>.inl e) (some ⟨g,0,none⟩) cap l (ho.mono ki.below.size) (fun b o e=>by
  cases e
  exact ⟨.inr ⟨hg,hgl⟩,by omega,.inl (fun hX=>by have:=ki.lt _ hX; omega)⟩)
 have kpX:∀ {S:Nat→Prop},S T→Keeps S w1 (w1.setCell ⟨T,86,none⟩ (.slice (some ⟨g,0,none⟩) l.length cap)):=fun {S} hS=>(Keeps.refl S w1).setCell (p:=⟨T,86,none⟩) hS _
 have hT1:(fun c=>X c∨(w.heap.size≤c∧c<w1.heap.size)) T:=.inl tb.xt
 refine ⟨⟨_,{ m with fa:=some ⟨g,0,none⟩,fc:=cap },k1.set (kpX hT1) lo1,tb2,lo1,fun c e=>⟨.inl (hy c e).1,fun ho=>?_⟩⟩,
  fun c hc=>((kpX (S:=(·=T)) rfl).block c (fun e=>(hy c hc).2 (.inl e)) ((ki.over b1).lt c (hy c hc).1)).trans (b1.block c (ki.lt c (hy c hc).1)),(Keeps.of_below b1).trans (kpX (S:=(·=T)) rfl)⟩
 have hc:=ki.lt c (hy c e).1
 rcases ho with ho | ho | ho | ho | ⟨o,ho⟩ | ho
 ·exact (hy c e).2 (.inl ho)
 ·exact (hy c e).2 (.inr (.inl ho))
 ·exact (hy c e).2 (.inr (.inr (.inl ho)))
 ·exact (hy c e).2 (.inr (.inr (.inr (.inl ho))))
 ·cases ho
  omega
 ·exact (hy c e).2 (.inr (.inr (.inr (.inr (.inr ho)))))
section
variable (w0 w:World) (n D T:Nat) (t:Tg) (Y:Nat→Prop)
set_option maxRecDepth 100000 in
theorem tflying_any (h:TgR w0 n D T t Y w) (hl:t.fly.length≤1000) :
  Calls Tryz.prog 33 #[.pointer (some ⟨T,0,none⟩)] w fun e w'=>∃ v,e=.returned v∧OwnM w.heap.size w' v t.fly∧Below w.heap.size w w':=by
 obtain ⟨X,m,ki,tb,lo,hy⟩:=h
 have c0:=(tg_cells tb.blk tb.ok).1.2.2.2.2.2.2.2.2.1
 have hT:=(Array.getElem?_eq_some_iff.1 tb.blk).1
 have CL:=Lib.hid (clone_msg w0.heap.size t.fly m.fa m.fc w hl tb.fly)
 clear ki tb lo hy
 go_enter Tryz.func33,Tryz.ntmps33
 go_wp2_with fail
 refine CL.out.mono ?_
 rintro e w1 ⟨v,rfl,h1,b1⟩
 go_wp2
 go_ret
 exact ⟨v,rfl,h1,b1⟩
set_option maxRecDepth 100000 in
set_option maxHeartbeats 4000000 in
theorem tlose_any (i:Int) (h:TgR w0 n D T t Y w) (hl:t.fly.length≤1000) :
  Calls Tryz.prog 49 #[.pointer (some ⟨T,0,none⟩),.int .i64 i] w fun e w'=>e=.returned (errV (t.lose i).2)∧TgPost w0 w n D T (t.lose i).1 Y w':=by
 have HH:=Lib.hid h
 obtain ⟨X,m,ki,tb,lo,hy⟩:=h
 have c0:=(tg_cells tb.blk tb.ok).1.2.2.2.2.2.2.2.2.1
 have hT:=(Array.getElem?_eq_some_iff.1 tb.blk).1
 have f0:=(tg_cells tb.blk tb.ok).2.2.2.2.2.2.2.2.2.1
 have CL:=Lib.hid (clone_msg w0.heap.size t.fly m.fa m.fc w hl tb.fly)
 have CT:=Lib.hid (fun w' (b:RowKit.Below w.heap.size w w')=>(tg_cells ((b.block T hT).trans tb.blk) tb.ok).2.2.2.2.2.2.2.2.2.1)
 have CC:=Lib.hid (fun w' (b:RowKit.Below w.heap.size w w')=>(b.cell (p:=⟨T,86,none⟩) hT).trans c0)
 clear ki tb lo hy
 by_cases h1:i<0∨(t.fly.length:Int)≤i
 ·have E:=Lib.hid (show t.lose i=(t,8) from by unfold Tg.lose; rw [if_pos h1])
  rw [E.out]
  rcases h1 with h1 | h1
  ·go_enter Tryz.func49,Tryz.ntmps49
   go_wp2
   go_ret
   exact ⟨rfl,.refl HH.out⟩
  ·have h2:¬ i<0:=by omega
   go_enter Tryz.func49,Tryz.ntmps49
   go_wp2
   go_ret
   exact ⟨rfl,.refl HH.out⟩
 ·obtain ⟨k,rfl⟩:∃ k:Nat,i=k:=⟨i.toNat,by omega⟩
  have E:=Lib.hid (show t.lose k=({ t with fly:=t.fly.eraseIdx k },0) from by unfold Tg.lose; rw [if_neg h1,Int.toNat_natCast])
  rw [E.out]
  have hk:k<t.fly.length:=by omega
  have q1:¬ (k:Int)<0:=by omega
  have q2:¬ (t.fly.length:Int)≤(k:Int):=by omega
  have q3:IntKind.i64.wrap ((k:Int)+1)=((k+1:Nat):Int):=by rw [IntWalk.i64_in _ (by omega)]; omega
  obtain ⟨j,hj⟩:∃ j,k+1=j:=⟨_,rfl⟩
  rw [hj] at q3
  have HJ:=Lib.hid hj.symm
  clear h1 hj E
  go_enter Tryz.func49,Tryz.ntmps49
  go_wp2_with fail
  refine CL.out.mono ?_
  rintro e w1 ⟨v,rfl,o1,b1⟩
  have hv:∃ a cap,v=.slice a t.fly.length cap:=by
   obtain ⟨-,h2 | ⟨g,cap,cur,e1,-⟩⟩:=o1
   ·exact absurd h2.2 (by omega)
   ·exact ⟨_,_,e1⟩
  obtain ⟨a,cap,rfl⟩:=hv
  have DEL:=Lib.hid (delete_msg w.heap.size t.fly a cap k j w1 hl o1 hk HJ.out)
  have B1:=Lib.hid b1
  clear b1 o1 CL
  go_wp2_with fail
  refine DEL.out.mono ?_
  rintro e w2 ⟨g,-,hg,hgl,rfl,o2,k2⟩
  have B2:=Lib.hid (show RowKit.Below w.heap.size w w2 from B1.out.trans (k2.below B1.out.size (fun c q=>by rw [q]; exact hg)))
  have LE:=Lib.hid (show (t.fly.eraseIdx k).length=t.fly.length - 1 from by rw [List.length_eraseIdx,if_pos hk])
  have P:=Lib.hid (HH.out.newFly B2.out g cap (t.fly.eraseIdx k) hg o2)
  rw [LE.out] at P
  have f2:=CT.out w2 B2.out
  have c2:=CC.out w2 B2.out
  clear o2 k2 DEL
  go_wp2
  go_ret
  exact ⟨rfl,P.out⟩
end
end Go.Proofs.YtajegiifabfcjaaGreatDoor

namespace Go.Proofs.YtajegiifabfcjaaGreatDoor
open Go.RowKit Go.Sort
structure Bz (T K:Nat) (ep at':Int) (pa pt:Nat) (w:World):Prop where
 ca:w.cell? ⟨pa,0,none⟩=some (.int .i64 at')
 ct:w.cell? ⟨pt,0,none⟩=some (.pointer (some ⟨T,0,none⟩))
 ck:w.cell? ⟨T,0,none⟩=some (.pointer (some ⟨K,0,none⟩))
 ep':∀ w',Below w.heap.size w w'→Calls Tryz.prog 62 #[.pointer (some ⟨K,0,none⟩)] w' fun e w''=>e=.returned (.int .i64 ep)∧w''=w'
theorem Bz.over {T K:Nat} {ep at':Int} {pa pt:Nat} {w w':World} (h:Bz T K ep at' pa pt w) (b:Below w.heap.size w w'):Bz T K ep at' pa pt w' :=
 ⟨(b.cell (p:=⟨pa,0,none⟩) (block_lt_of_cell h.ca)).trans h.ca,(b.cell (p:=⟨pt,0,none⟩) (block_lt_of_cell h.ct)).trans h.ct,(b.cell (p:=⟨T,0,none⟩) (block_lt_of_cell h.ck)).trans h.ck,fun x bx=>h.ep' x (b.trans (bx.mono b.size))⟩
def busyM (m:Ms) (ep at':Int):Bool:=decide (m.at'=at') && decide (m.c.e=ep)
set_option maxRecDepth 100000 in
set_option maxHeartbeats 4000000 in
theorem busy1_any (T K:Nat) (ep at':Int) (pa pt:Nat) (m:Ms) (w:World) (h:Bz T K ep at' pa pt w) :
  Calls Tryz.prog 101 #[.agg #[.int .i64 m.tt,.int .i64 m.at',.int .i64 m.c.e,.int .i64 m.c.n,.string m.c.d,.int .i64 m.tag],.pointer (some ⟨pa,0,none⟩),.pointer (some ⟨pt,0,none⟩)] w fun e w'=>e=.returned (.bool (busyM m ep at'))∧Below w.heap.size w w':=by
 obtain ⟨D,hD⟩:∃ D,busyM m ep at'=D:=⟨_,rfl⟩
 rw [hD]
 have HD:=Lib.hid hD
 clear hD
 obtain ⟨w1,hw1⟩:∃ w1,w1=w.alloc (.cells #[.int .i64 m.tt,.int .i64 m.at',.int .i64 m.c.e,.int .i64 m.c.n,.string m.c.d,.int .i64 m.tag] 125):=⟨_,rfl⟩
 have B1:=Lib.hid (show RowKit.Below w.heap.size w w1 from hw1▸bal w _)
 have R1:=Lib.hid (show w1.heap[w.heap.size]?=some (.cells #[.int .i64 m.tt,.int .i64 m.at',.int .i64 m.c.e,.int .i64 m.c.n,.string m.c.d,.int .i64 m.tag] 125 (0,0)) from hw1▸heap_alloc_new w _)
 have H1:=Lib.hid (h.over B1.out)
 have hlt:w.heap.size<w1.heap.size:=(Array.getElem?_eq_some_iff.1 R1.out).1
 go_enter Tryz.func101,Tryz.ntmps101
 go_upto_region 1 with fail
 rw [← hw1]
 clear h hw1
 have c0:w1.cell? ⟨w.heap.size,1,none⟩=some (.int .i64 m.at'):=by simp [World.cell?,R1.out]
 have c1:w1.cell? ⟨w.heap.size,2,none⟩=some (.int .i64 m.c.e):=by simp [World.cell?,R1.out]
 obtain ⟨ca,ct,ck,-⟩:=H1.out
 have la:=block_lt_of_cell ca
 have lt:=block_lt_of_cell ct
 have lk:=block_lt_of_cell ck
 have hq:=bregrown (Below.refl w1.heap.size w1)
 have EP:=Lib.hid (fun x (bx:RowKit.Below w1.heap.size w1 x)=>(H1.out.ep' x bx).mono (fun (e:Ending) (w':World) (q:e=.returned (.int .i64 ep)∧w'=x)=>(⟨q.1,q.2▸Below.refl _ _⟩:e=.returned (.int .i64 ep)∧RowKit.Below x.heap.size x w')))
 by_cases h1:m.at'=at'
 ·have h1b:(m.at' == at')=true:=by simp [h1]
  have PD:=Lib.hid (show (m.c.e == ep)=D from by rw [← HD.out,Bool.eq_iff_iff]; simp [busyM,h1])
  clear h1
  refine wp_region_quiet_below (by kernel_rfl) (by kernel_rfl) ?_
  repeat (go_big_quiet_step (exact Calls.regrown_of (EP.out _ (below_regrown w1 _ _))))
  refine wpQuiet_nil ?_
  rintro w' ⟨⟨dq,osq⟩,rfl⟩
  go_wp2
  go_ret
  exact ⟨by rw [PD.out]; rfl,B1.out.trans ((below_regrown _ dq osq).mono B1.out.size)⟩
 ·have h1b:(m.at' == at')=false:=by simp [h1]
  have PD:=Lib.hid (show false=D from by rw [← HD.out]; simp [busyM,h1])
  clear h1
  refine wp_region_quiet_below (by kernel_rfl) (by kernel_rfl) ?_
  repeat (go_big_quiet_step (exact Calls.regrown_of (EP.out _ (below_regrown w1 _ _))))
  refine wpQuiet_nil ?_
  rintro w' ⟨⟨dq,osq⟩,rfl⟩
  go_wp2
  go_ret
  exact ⟨by rw [PD.out]; rfl,B1.out.trans ((below_regrown _ dq osq).mono B1.out.size)⟩
theorem msg_at {l:List Ms} {k:Nat} (hk:k<l.length):∀ j,j<6→(flyL l)[k*6+j]?=l[k].row[j]?:=by
 intro j hj
 have e1:(flyL l).drop (k*6)=l[k].row ++ flyL (l.drop (k+1)):=by
  rw [flyL_drop,List.drop_eq_getElem_cons hk]
  rfl
 rw [← List.getElem?_drop,e1,List.getElem?_append_left (by simpa [Ms.row] using hj)]
set_option maxRecDepth 100000 in
set_option maxHeartbeats 4000000 in
theorem index_msg (T K:Nat) (ep at':Int) (pa pt B:Nat) (l:List Ms) (a:Option Addr) (cap:Nat) (w:World) (h:Bz T K ep at' pa pt w) (hl:l.length≤1000) (hr:OwnM B w (.slice a l.length cap) l) :
  Calls Tryz.prog 126 #[.slice a l.length cap,.func (.func 101) #[] #[.pointer (some ⟨pa,0,none⟩),.pointer (some ⟨pt,0,none⟩)]] w fun e w'=>(∃ i:Int,e=.returned (.int .i64 i)∧(0≤i ↔ (l.any fun m=>busyM m ep at')=true))∧Below w.heap.size w w':=by
 have HH:=Lib.hid h
 have HR:=Lib.hid hr
 clear h hr
 go_enter Tryz.func126,Tryz.ntmps126
 go_wp2
 go_loopw [8] (fun i wr=>∃ k:Nat,k≤l.length∧i=.int .i64 k∧(∀ j (_:j<k) (hj:j<l.length),busyM l[j] ep at'=false)∧Below w.heap.size w wr) (fun i _=>l.length - (intOf i).toNat)
 case atStart=>exact ⟨0,by omega,rfl,fun j h=>absurd h (by omega),Below.refl _ _⟩
 case round =>
  obtain ⟨k,hk,rfl,hK,hbw⟩:=hrel
  have HK:=Lib.hid hK; clear hK
  have hs:=hbw.size
  by_cases hlt:k<l.length
  ·have cells:∃ g,a=some ⟨g,0,none⟩∧(wr.cell? ⟨g,k*6,none⟩=some (.int .i64 l[k].tt)∧wr.cell? ⟨g,k*6+1,none⟩=some (.int .i64 l[k].at')∧wr.cell? ⟨g,k*6+2,none⟩=some (.int .i64 l[k].c.e)∧wr.cell? ⟨g,k*6+3,none⟩=some (.int .i64 l[k].c.n)∧wr.cell? ⟨g,k*6+4,none⟩=some (.string l[k].c.d)∧wr.cell? ⟨g,k*6+5,none⟩=some (.int .i64 l[k].tag)):=by
    have hr:=HR.out
    obtain ⟨-,h2 | ⟨g,cap',cur,e1,e2,e3,-⟩⟩:=id hr
    ·exact absurd h2.2 (by omega)
    obtain ⟨rfl,rfl⟩:a=some ⟨g,0,none⟩∧cap=cap':=by simpa using e1
    have hg:=(Array.getElem?_eq_some_iff.1 e3).1
    have c:∀ j v,j<6→l[k].row[j]?=some v→wr.cell? ⟨g,k*6+j,none⟩=some v:=fun j v hj hv=>by
     have:=OwnM.cells hr (k*6+j) v (by rw [msg_at hlt j hj,hv])
     rw [Addr.add_lit,Nat.zero_add] at this
     exact (hbw.cell (p:=⟨g,_,none⟩) hg).trans this
    exact ⟨g,rfl,c 0 _ (by omega) rfl,c 1 _ (by omega) rfl,c 2 _ (by omega) rfl,c 3 _ (by omega) rfl,c 4 _ (by omega) rfl,c 5 _ (by omega) rfl⟩
   obtain ⟨g,rfl,c0,c1,c2,c3,c4,c5⟩:=cells
   obtain ⟨m,hm⟩:∃ m,l[k]=m:=⟨_,rfl⟩
   rw [hm] at c0 c1 c2 c3 c4 c5
   have B1:=Lib.hid (busy1_any T K ep at' pa pt m wr (HH.out.over hbw))
   go_wp2_with fail
   refine B1.out.mono ?_
   rintro e w1 ⟨rfl,hb1⟩
   have hb2:=hbw.trans (hb1.mono hs)
   have HM:=Lib.hid hm
   clear hm
   cases hv:busyM m ep at'
   ·have hn:∀ j (_:j<k+1) (hj:j<l.length),busyM l[j] ep at'=false:=by
     intro j h1 h2
     by_cases e:j=k
     ·subst e; rw [HM.out]; exact hv
     ·exact HK.out j (by omega) h2
    have HN:=Lib.hid hn
    clear hn hv
    go_wp2
    go_roundw
    case rel=>exact ⟨k+1,by omega,by go_num,HN.out,hb2⟩
    case measure=>simp [intOf]; omega
   ·have HP:=Lib.hid (show (0≤(k:Int) ↔ (l.any fun m=>busyM m ep at')=true) from by
     refine ⟨fun _=>?_,fun _=>by omega⟩
     rw [List.any_eq_true]
     exact ⟨l[k],List.getElem_mem hlt,by rw [HM.out]; exact hv⟩)
    clear hv
    go_wp2
    go_ret
    exact ⟨⟨_,rfl,HP.out⟩,hb2⟩
  ·have HP:=Lib.hid (show (0≤(-1:Int) ↔ (l.any fun m=>busyM m ep at')=true) from by
    refine ⟨fun h=>absurd h (by omega),fun h=>?_⟩
    obtain ⟨m,hm,h2⟩:=List.any_eq_true.1 h
    obtain ⟨j,hj,e⟩:=List.getElem_of_mem hm
    have:=HK.out j (by omega) hj
    rw [e,h2] at this
    cases this)
   go_wp2
   go_ret
   exact ⟨⟨_,rfl,HP.out⟩,hbw⟩
set_option maxRecDepth 100000 in
theorem contains_msg (T K:Nat) (ep at':Int) (pa pt B:Nat) (l:List Ms) (a:Option Addr) (cap:Nat) (w:World) (h:Bz T K ep at' pa pt w) (hl:l.length≤1000) (hr:OwnM B w (.slice a l.length cap) l) :
  Calls Tryz.prog 100 #[.slice a l.length cap,.func (.func 101) #[] #[.pointer (some ⟨pa,0,none⟩),.pointer (some ⟨pt,0,none⟩)]] w fun e w'=>e=.returned (.bool (l.any fun m=>busyM m ep at'))∧Below w.heap.size w w':=by
 have IX:=Lib.hid (index_msg T K ep at' pa pt B l a cap w h hl hr)
 obtain ⟨D,hD⟩:∃ D,(l.any fun m=>busyM m ep at')=D:=⟨_,rfl⟩
 rw [hD] at IX ⊢
 clear h hr hD
 go_enter Tryz.func100,Tryz.ntmps100
 go_wp2_with fail
 refine IX.out.mono ?_
 rintro e w1 ⟨⟨i,rfl,hi⟩,b1⟩
 have HI:=Lib.hid (show decide (0≤i)=D from by rw [Bool.eq_iff_iff,decide_eq_true_iff]; exact hi)
 clear hi
 go_wp2
 go_ret
 exact ⟨by rw [HI.out]; rfl,b1⟩
section
variable (w0 w:World) (n D T:Nat) (t:Tg) (Y:Nat→Prop)
set_option maxRecDepth 100000 in
set_option maxHeartbeats 4000000 in
theorem tbusy_any (at':Int) (h:TgR w0 n D T t Y w) (hl:t.fly.length≤1000) :
  Calls Tryz.prog 59 #[.pointer (some ⟨T,0,none⟩),.int .i64 at'] w fun e w'=>e=.returned (.bool (t.busy at'))∧Below w.heap.size w w':=by
 obtain ⟨X,m,ki,tb,lo,hy⟩:=h
 obtain ⟨w1,hw1⟩:∃ w1,w1=(w.alloc (.cells #[.pointer (some ⟨T,0,none⟩)] 26)).alloc (.cells #[.int .i64 at'] 3):=⟨_,rfl⟩
 have B1:=Lib.hid (show RowKit.Below w.heap.size w w1 from hw1▸(((Below.refl _ w).alloc (Nat.le_refl _) _).alloc (by simp) _))
 have C0:=(B1.out.cell (p:=⟨T,0,none⟩) (Array.getElem?_eq_some_iff.1 tb.blk).1).trans (tg_cells tb.blk tb.ok).1.1
 have c2:w1.cell? ⟨w.heap.size,0,none⟩=some (.pointer (some ⟨T,0,none⟩)):=by rw [hw1]; go_simp
 have c3:w1.cell? ⟨w.heap.size+1,0,none⟩=some (.int .i64 at'):=by rw [hw1]; go_simp
 have BZ:=Lib.hid (show Bz T m.K t.k.ep at' (w.heap.size+1) w.heap.size w1 from ⟨c3,c2,C0,fun x bx=>epochI n w0 x X D m.K t.k ((ki.over B1.out).over bx)⟩)
 have OM:=Lib.hid (show OwnM w0.heap.size w1 (.slice m.fa t.fly.length m.fc) t.fly from ownsRow_same tb.fly (fun b e=>B1.out.block b (ki.lt b (fly_block tb e).1)))
 have c4:=(B1.out.cell (p:=⟨T,86,none⟩) (Array.getElem?_eq_some_iff.1 tb.blk).1).trans (tg_cells tb.blk tb.ok).1.2.2.2.2.2.2.2.2.1
 have CT:=Lib.hid (contains_msg T m.K t.k.ep at' (w.heap.size+1) w.heap.size w0.heap.size t.fly m.fa m.fc w1 BZ.out hl OM.out)
 obtain ⟨R,hR⟩:∃ R,t.busy at'=R:=⟨_,rfl⟩
 have HR:=Lib.hid (show (t.fly.any fun m=>busyM m t.k.ep at')=R from hR)
 rw [hR]
 clear ki tb lo hy hR
 go_enter Tryz.func59,Tryz.ntmps59
 go_upto_region 1 with fail
 have hw1':=hw1
 rw [← hw1']
 clear hw1 hw1'
 go_wp2_with fail
 refine CT.out.mono ?_
 rintro e w2 ⟨rfl,b2⟩
 rw [HR.out]
 go_wp2
 go_ret
 exact ⟨rfl,B1.out.trans (b2.mono B1.out.size)⟩
set_option maxRecDepth 100000 in
set_option maxHeartbeats 4000000 in
theorem trefuse_any (bad at':Int) (h:TgR w0 n D T t Y w) (hl:t.fly.length≤1000) :
  Calls Tryz.prog 60 #[.pointer (some ⟨T,0,none⟩),errV bad,.int .i64 at'] w fun e w'=>e=.returned (errV (t.refuse bad at'))∧Below w.heap.size w w':=by
 by_cases hb:bad=0
 ·subst hb
  rw [errV_nil]
  have BU:=Lib.hid (tbusy_any w0 w n D T t Y at' h hl)
  obtain ⟨R,hR⟩:∃ R,t.busy at'=R:=⟨_,rfl⟩
  rw [hR] at BU
  have E:=Lib.hid (show t.refuse 0 at'=if R then 7 else 9 from by unfold Tg.refuse; rw [if_neg (fun h=>h rfl),hR])
  clear h hR
  cases R
  ·go_enter Tryz.func60,Tryz.ntmps60
   go_wp2_with fail
   refine BU.out.mono ?_
   rintro e w2 ⟨rfl,b2⟩
   go_wp2
   go_ret
   exact ⟨by rw [E.out]; rfl,b2⟩
  ·go_enter Tryz.func60,Tryz.ntmps60
   go_wp2_with fail
   refine BU.out.mono ?_
   rintro e w2 ⟨rfl,b2⟩
   go_wp2
   go_ret
   exact ⟨by rw [E.out]; rfl,b2⟩
 ·have E:=Lib.hid (show t.refuse bad at'=bad from by unfold Tg.refuse; rw [if_pos hb])
  rw [errV_some hb,E.out,errV_some hb]
  clear h
  go_enter Tryz.func60,Tryz.ntmps60
  go_wp2
  go_ret
  exact ⟨rfl,Below.refl _ _⟩
end
end Go.Proofs.YtajegiifabfcjaaGreatDoor
