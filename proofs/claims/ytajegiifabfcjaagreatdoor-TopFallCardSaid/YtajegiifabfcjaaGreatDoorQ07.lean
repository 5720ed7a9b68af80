/-
  GRead, CmdV, OpenC, Acts, RefL, Light, LightActs, GLed, GPlain, GPlain2, OpenM
-/
import Derived.Test.YtajegiifabfcjaaGreatDoorQ06
import Derived.Deep.MidRow
namespace Go.Proofs.YtajegiifabfcjaaGreatDoor
open Go.RowKit Go.Sort
theorem results_rows_tmp {P:Program} {fn:Func} {p q r:Tmp} {ty ty':TypeId} (h:fn.results=#[.cell p ty,.cell q ty',.tmp r]) (tmps:Array Value) (w:World) (g g':Nat) (t t':TypeId) (cs cs':Array Value) (d d':TypeDesc) (v:Value)
  (hp:tmps.getD p undef=.pointer (some ⟨g,0,none⟩)) (hq:tmps.getD q undef=.pointer (some ⟨g',0,none⟩)) (hv:tmps.getD r undef=v) (hg:w.heap[g]?=some (.cells cs t (0,0))) (hg':w.heap[g']?=some (.cells cs' t' (0,0)))
  (hu:P.underlying ty=some d) (hd:(match d with | .struct _ | .array _ _=>true | _=>false)=true) (hi:(P.info? ty).map (·.size)=some cs.size)
  (hu':P.underlying ty'=some d') (hd':(match d' with | .struct _ | .array _ _=>true | _=>false)=true) (hi':(P.info? ty').map (·.size)=some cs'.size) :
  (results fn tmps).run P w=.ok (.tuple #[.agg cs,.agg cs',v]) w:=by
 have hp':tmps[p]?.getD undef=.pointer (some ⟨g,0,none⟩):=by simpa using hp
 have hq':tmps[q]?.getD undef=.pointer (some ⟨g',0,none⟩):=by simpa using hq
 have hv':tmps[r]?.getD undef=v:=by simpa using hv
 simp [results,h,hp',hq',hv',asAddr,run_loadVar_row w g t ty cs (0,0) d hg hu hd hi,run_loadVar_row w g' t' ty' cs' (0,0) d' hg' hu' hd' hi']
abbrev Cel.cells (c:Cel):Array Value:=#[.int .i64 c.e,.int .i64 c.n,.string c.d]
theorem cel_zero_arr:Cel.zero.cells=#[.int .i64 0,.int .i64 0,.string ⟨#[]⟩]:=rfl
theorem cel_one (c:Cel):c.cells.all (·.oneCell')=true:=by simp [Cel.cells,Value.oneCell']
theorem built_cell0:Tryz.prog.built 30 []=some Cel.zero.cells:=by kernel_rfl
def Gp.put1 (g:Gp) (k:Nat) (c:Cel) (x:Int):Gp:=g.setR x.toNat ⟨(g.r.getD x.toNat Rp.zero).floor,(g.r.getD x.toNat Rp.zero).cells.set k c⟩
def Gp.putAll (g:Gp) (k:Nat) (c:Cel) (l:List Int):Gp:=l.foldl (fun h x=>h.put1 k c x) g
theorem Gp.putAll_snoc (g:Gp) (k:Nat) (c:Cel) (l:List Int) (x:Int):g.putAll k c (l ++ [x])=(g.putAll k c l).put1 k c x:=by simp [Gp.putAll]
def Gp.readC (g:Gp) (epoch:Int) (k:Nat):Cel:=if 2≤(g.mem epoch).length then bestL k (g.frm epoch) else Cel.zero
def Gp.read (g:Gp) (epoch:Int) (k:Nat):Gp:=if 2≤(g.mem epoch).length then g.putAll k (g.readC epoch k) (g.mem epoch) else g
theorem Gp.put1_ok {g:Gp} (h:g.ok) (k:Nat) (c:Cel) {i:Nat} (hi:i<3):(g.put1 k c i).ok:=h.setR _ (by simpa using Gp.getR h hi)
theorem Gp.putAll_ok {g:Gp} (h:g.ok) (k:Nat) (c:Cel):∀ l:List Int,(∀ x∈l,∃ i:Nat,x=i∧i<3)→(g.putAll k c l).ok:=by
 intro l
 induction l generalizing g with
 | nil=>intro _; exact h
 | cons x l ih =>
  intro hl
  obtain ⟨i,rfl,hi⟩:=hl x (by simp)
  exact ih (Gp.put1_ok h k c hi) (fun y hy=>hl y (by simp [hy]))
theorem Gp.read_ok {g:Gp} (h:g.ok) (epoch:Int) (k:Nat):(g.read epoch k).ok:=by
 unfold Gp.read; split
 ·exact Gp.putAll_ok h _ _ _ (fun x hx=>by obtain ⟨i,h1,h2,-⟩:=Gp.mem_lt hx; exact ⟨i,h1,h2⟩)
 ·exact h
structure RF (w:World) (h:Gp) (wx:World):Prop where
 below:Below w.heap.size w wx
 ok:h.ok
 hG:wx.heap[w.heap.size]?=some (.cells h.arr 60 (0,0))
 hZ:wx.heap[w.heap.size+1]?=some (.cells Gp.zero.arr 60 (0,0))
 hC:wx.heap[w.heap.size+1+1]?=some (.cells Cel.zero.cells 30 (0,0))
theorem RF.lt {w wx:World} {h:Gp} (f:RF w h wx):w.heap.size+1+1<wx.heap.size:=(Array.getElem?_eq_some_iff.1 f.hC).1
theorem RF.over {w wx w':World} {h:Gp} (f:RF w h wx) (b:Below wx.heap.size wx w'):RF w h w' :=
 ⟨f.below.trans (b.mono f.below.size),f.ok,(b.block _ (by have:=f.lt; omega)).trans f.hG,(b.block _ (by have:=f.lt; omega)).trans f.hZ,(b.block _ f.lt).trans f.hC⟩
theorem RF.keeps {w wx w':World} {h:Gp} {B:Nat} (f:RF w h wx) (k:Keeps (·=B) wx w') (hB:w.heap.size+1+1<B):RF w h w':=by
 have:=f.lt
 exact ⟨f.below.trans (k.below f.below.size (fun m hm=>by omega)),f.ok,(k.block _ (by omega) (by omega)).trans f.hG,(k.block _ (by omega) (by omega)).trans f.hZ,(k.block _ (by omega) f.lt).trans f.hC⟩
theorem RF.done {w wx:World} {h:Gp} (f:RF w h wx) (cs cs':Array Value):Below w.heap.size w ((wx.setRow (w.heap.size+1) cs).setRow (w.heap.size+1+1) cs') :=
 f.below.trans ((((Keeps.refl (fun m=>m=w.heap.size+1∨m=w.heap.size+1+1) wx).setRow (.inl rfl) _).setRow (.inr rfl) _).below f.below.size (fun m hm=>by omega))
structure RB (w:World) (h:Gp) (B:Nat) (c:Cel) (wx:World):Prop where
 rf:RF w h wx
 hB:wx.heap[B]?=some (.cells c.cells 30 (0,0))
 lo:w.heap.size+1+1<B
theorem RB.lt {w wx:World} {h:Gp} {B:Nat} {c:Cel} (f:RB w h B c wx):B<wx.heap.size:=(Array.getElem?_eq_some_iff.1 f.hB).1
theorem RB.over {w wx w':World} {h:Gp} {B:Nat} {c:Cel} (f:RB w h B c wx) (b:Below wx.heap.size wx w'):RB w h B c w' :=
 ⟨f.rf.over b,(b.block _ f.lt).trans f.hB,f.lo⟩
theorem RB.put {w wx:World} {h:Gp} {B:Nat} {c:Cel} (f:RB w h B c wx) (d:Cel):RB w h B d (wx.setRow B d.cells) :=
 ⟨f.rf.keeps ((Keeps.refl (·=B) wx).setRow rfl _) f.lo,setRow_heap _ _ _ _ _ _ f.hB,f.lo⟩
theorem gp_rangeC {w:World} {N i k:Nat} {g:Gp} {T:TypeId} (h:w.heap[N]?=some (.cells g.arr T (0,0))) (hg:g.ok) (hi:i<g.r.length) (hk:k<g.r[i].cells.length):w.rangeAt N (i*25+1+k*3) g.r[i].cells[k].cells.toList:=by
 obtain ⟨⟨h0,h1,h2⟩,-⟩:=gp_cellA h hg hi hk
 intro j v hv
 match j,hv with
 | 0,hv=>simp at hv; subst hv; exact h0
 | 1,hv=>simp at hv; subst hv; exact h1
 | 2,hv=>simp at hv; subst hv; exact h2
 | j+3,hv=>simp at hv
theorem RB.setC {w wx:World} {h:Gp} {B i k:Nat} {c:Cel} (f:RB w h B c wx) (hi:i<3) (hk:k<8) :
  RB w (h.put1 k c (i:Int)) B c (((wx.setCell ⟨w.heap.size,i*25+1+k*3,none⟩ (.int .i64 c.e)).setCell ⟨w.heap.size,i*25+1+k*3+1,none⟩ (.int .i64 c.n)).setCell ⟨w.heap.size,i*25+1+k*3+2,none⟩ (.string c.d)) ∧
  Keeps (·=w.heap.size) wx (((wx.setCell ⟨w.heap.size,i*25+1+k*3,none⟩ (.int .i64 c.e)).setCell ⟨w.heap.size,i*25+1+k*3+1,none⟩ (.int .i64 c.n)).setCell ⟨w.heap.size,i*25+1+k*3+2,none⟩ (.string c.d)):=by
 have kp:Keeps (·=w.heap.size) wx (((wx.setCell ⟨w.heap.size,i*25+1+k*3,none⟩ (.int .i64 c.e)).setCell ⟨w.heap.size,i*25+1+k*3+1,none⟩ (.int .i64 c.n)).setCell ⟨w.heap.size,i*25+1+k*3+2,none⟩ (.string c.d)) :=
  Keeps.setCell (S:=(·=w.heap.size)) (Keeps.setCell (S:=(·=w.heap.size)) (Keeps.setCell (S:=(·=w.heap.size)) (Keeps.refl _ _) rfl _) rfl _) rfl _
 have hir:i<h.r.length:=by rw [f.rf.ok.r3]; exact hi
 have hkr:k<h.r[i].cells.length:=by rw [f.rf.ok.c8 _ (List.getElem_mem hir)]; exact hk
 have hlt:=f.rf.lt
 have hlo:=f.lo
 have e:h.put1 k c (i:Int)=h.setR i ⟨h.r[i].floor,h.r[i].cells.set k c⟩:=by simp [Gp.put1,hir]
 refine ⟨⟨⟨f.rf.below.trans (kp.below f.rf.below.size (fun m hm=>by omega)),Gp.put1_ok f.rf.ok k c hi,?_,(kp.block _ (by omega) (by omega)).trans f.rf.hZ,(kp.block _ (by omega) hlt).trans f.rf.hC⟩,(kp.block _ (by omega) f.lt).trans f.hB,f.lo⟩,kp⟩
 rw [e]
 exact gp_setCA f.rf.hG f.rf.ok hir hkr c
set_option maxRecDepth 100000 in
set_option maxHeartbeats 2000000 in
theorem gread_any (g:Gp) (epoch:Int) (k:Nat) (w:World) (hg:g.ok) (hk8:k<8) :
  Calls Tryz.prog 98 #[.agg g.arr,.int .i64 epoch,.int .i64 k] w fun e w'=>e=.returned (.tuple #[.agg (g.read epoch k).arr,.agg (g.readC epoch k).cells,.bool (decide (2≤(g.mem epoch).length))])∧Below w.heap.size w w':=by
 have OK:=Lib.hid hg
 have Z:=Lib.hid (Gp.size hg)
 clear hg
 go_enter Tryz.func98,Tryz.ntmps98
 go_upto_region 1 with fail
 obtain ⟨w1,hw1⟩:∃ w1,w1=((w.alloc (.cells g.arr 60)).alloc (.cells Gp.zero.arr 60)).alloc (.cells Cel.zero.cells 30):=⟨_,rfl⟩
 have hw1':=hw1
 rw [← gp_zero_arr] at hw1
 rw [cel_zero_arr] at hw1
 rw [← hw1]
 clear hw1
 have F1:=Lib.hid (show RF w g w1 from hw1'▸⟨bal3a w _ _ _,OK.out,(heap3 w _ _ _).1,(heap3 w _ _ _).2.1,(heap3 w _ _ _).2.2⟩)
 clear hw1'
 have hw1N:w.heap.size+1+1<w1.heap.size:=F1.out.lt
 go_wp2_with ((with_reducible refine ld_row1 rfl 60 _ rfl ?_); refine ⟨w.heap.size,_,g.arr,_,rfl,F1.out.hG,gp_row.1,rfl,by rw [gp_row.2,Z.out],?_⟩)
 refine (members_any g _ _ OK.out).mono ?_
 rintro e w2 ⟨a2,c2,rfl,hown,b2⟩
 have F2:=Lib.hid (F1.out.over b2)
 have HI:=Lib.hid hown.hi
 obtain ⟨m,hm⟩:∃ m,(g.mem epoch).length=m:=⟨_,rfl⟩
 rw [hm]
 have HM:=Lib.hid hm
 have hm3:m≤3:=hm▸g.mem_len epoch 3
 clear hm b2 F1 hown
 by_cases hm2:m<2
 ·have HN:=Lib.hid (show g.read epoch k=g∧g.readC epoch k=Cel.zero∧decide (2≤(g.mem epoch).length)=false from by
   have:¬ 2≤(g.mem epoch).length:=by rw [HM.out]; omega
   exact ⟨if_neg this,if_neg this,decide_eq_false this⟩)
  obtain ⟨C0,hC0⟩:∃ C0,Cel.zero=C0:=⟨_,rfl⟩
  have BC:=Lib.hid (show Tryz.prog.built 30 []=some C0.cells from hC0▸built_cell0)
  have HZC:=Lib.hid (show w2.heap[w.heap.size+1+1]?=some (.cells C0.cells 30 (0,0)) from hC0▸F2.out.hC)
  rw [hC0] at HN
  clear hC0
  go_wp2_with (first | ((with_reducible refine bld1 rfl 30 _ rfl ?_); refine ⟨[],C0.cells,rfl,BC.out,?_⟩) | ((with_reducible refine ld_row1 rfl 60 _ rfl ?_); refine ⟨w.heap.size,_,g.arr,_,rfl,F2.out.hG,gp_row.1,rfl,by rw [gp_row.2,Z.out],?_⟩) | ((with_reducible refine st_row1 rfl 60 _ _ rfl ?_); refine ⟨w.heap.size+1,_,g.arr,_,rfl,rfl,F2.out.hZ,by rw [gp_row.2,Z.out],by rw [Z.out]; rfl,Gp.one _,?_⟩) | ((with_reducible refine st_row1 rfl 30 _ _ rfl ?_); refine ⟨w.heap.size+1+1,_,C0.cells,_,rfl,rfl,(setRow_other _ _ _ _ (by omega)).trans HZC.out,cell_row.2,rfl,cel_one _,?_⟩))
  refine bodyPost_ret (v:=.tuple #[.agg g.arr,.agg C0.cells,.bool false]) (results_rows_tmp Tryz.results98 _ _ (w.heap.size+1) (w.heap.size+1+1) 60 30 g.arr C0.cells _ _ _ rfl rfl rfl ((setRow_other _ _ _ _ (by omega)).trans (setRow_heap _ _ _ _ _ _ F2.out.hZ)) (setRow_heap _ _ _ _ _ _ ((setRow_other _ _ _ _ (by omega)).trans HZC.out)) gp_row.1 rfl (by rw [gp_row.2,Z.out]) cell_row.1 rfl cell_row.2) rfl ?_
  exact ⟨by rw [HN.out.1,HN.out.2.1,HN.out.2.2],F2.out.done _ _⟩
 ·have hm2':2≤(g.mem epoch).length:=by rw [HM.out]; omega
  have HD:=Lib.hid (show decide (2≤(g.mem epoch).length)=true from decide_eq_true hm2')
  obtain ⟨L,hL⟩:∃ L,g.frm epoch=L:=⟨_,rfl⟩
  have HC:=Lib.hid (show g.readC epoch k=bestL k L from hL▸if_pos hm2')
  have HN:=Lib.hid (show g.read epoch k=g.putAll k (bestL k L) (g.mem epoch) from by rw [← HC.out]; exact if_pos hm2')
  have LM:=Lib.hid (show L.length=m from by rw [← hL,← HM.out]; simp [Gp.frm])
  have LAT:=Lib.hid (show ∀ j (h:j<(g.mem epoch).length),∃ i':Nat,i'<3∧(g.mem epoch)[j]=(i':Int)∧L[j]?=some (g.r.getD i' Rp.zero) from fun j h=>by
   obtain ⟨i',e,h3,-⟩:=Gp.mem_lt (List.getElem_mem h)
   refine ⟨i',h3,e,?_⟩
   rw [← hL]
   unfold Gp.frm
   rw [List.getElem?_map,List.getElem?_eq_getElem h,e]
   rfl)
  have hd2:decide ((m:Int)<2)=false:=by simp; omega
  have hk8':(k:Int)<8:=by omega
  clear hm2' hL
  go_upto_region 5 with fail
  obtain ⟨w3,hw3⟩:∃ w3,w3=w2.alloc (.cells Cel.zero.cells 30):=⟨_,rfl⟩
  have hw3':=hw3
  rw [cel_zero_arr] at hw3
  rw [← hw3]
  clear hw3
  have R3:=Lib.hid (show RB w g w2.heap.size Cel.zero w3 from hw3'▸⟨F2.out.over (bal w2 _),heap_alloc_new _ _,F2.out.lt⟩)
  have K3:=Lib.hid (show Below w2.heap.size w2 w3 from hw3'▸bal w2 _)
  clear hw3'
  obtain ⟨B,hB⟩:∃ B,w2.heap.size=B:=⟨_,rfl⟩
  rw [hB] at R3 K3
  rw [hB]
  have HBB:=Lib.hid hB
  clear hB F2
  have hB2:w.heap.size+1+1<B:=R3.out.lo
  go_wp2
  go_loopw [12,25] (fun _ i wr=>∃ j:Nat,j≤m∧i=.int .i64 j∧RB w g B (bestL k (L.take j)) wr∧Below B w2 wr) (fun _ i _=>m - (intOf i).toNat)
  case atStart=>exact ⟨0,by omega,rfl,R3.out,K3.out⟩
  case round =>
   obtain ⟨j,hj,rfl,rb,hb⟩:=hrel
   obtain ⟨b,hbb⟩:∃ b,bestL k (L.take j)=b:=⟨_,rfl⟩
   rw [hbb] at rb
   have RBH:=Lib.hid rb
   have HB:=Lib.hid hb
   have BB:=Lib.hid hbb
   clear rb hb hbb R3 K3
   by_cases hjm:j<m
   ·obtain ⟨i',h3,hx,hLj⟩:=LAT.out j (by rw [HM.out]; exact hjm)
    obtain ⟨bb,oo,rfl,-,hbk,hcell⟩:=HI.out j (by rw [HM.out]; exact hjm)
    rw [hx] at hcell
    rw [HBB.out] at hbk
    have c0:=(HB.out.cell (p:=⟨bb,oo+j,none⟩) hbk).trans hcell
    have h3i:(i':Int)<3:=by omega
    have hkr:i'<g.r.length:=by rw [OK.out.r3]; exact h3
    have hkc:k<g.r[i'].cells.length:=by rw [OK.out.c8 _ (List.getElem_mem hkr)]; exact hk8
    obtain ⟨⟨g0,g1,g2⟩,-⟩:=gp_cellA RBH.out.rf.hG OK.out hkr hkc
    obtain ⟨d,hd⟩:∃ d,g.r[i'].cells[k]=d:=⟨_,rfl⟩
    rw [hd] at g0 g1 g2
    obtain ⟨b0,b1,b2⟩:=cell_box RBH.out.hB
    obtain ⟨X,hX⟩:∃ X,newerB d b=X:=⟨_,rfl⟩
    have hjl:j<L.length:=by rw [LM.out]; exact hjm
    have HT:=Lib.hid (show bestL k (L.take (j+1))=if X then d else b from by
     have e:L[j].get k=d:=by
      have e2:L[j]=g.r[i']:=by
       have:=hLj
       rw [List.getElem?_eq_getElem hjl] at this
       simpa [hkr] using this
      rw [e2,Rp.get_at hkc,hd]
     rw [bestL_take hjl,e,BB.out,hX])
    have NW:=Lib.hid (fun (w:World)=>newer_x hX w)
    have hN0:w.heap.size<wr.heap.size:=by have:=RBH.out.rf.lt; omega
    have hNB:B<wr.heap.size:=RBH.out.lt
    have hq:=bregrown (Below.refl wr.heap.size wr)
    have RCF:=Lib.hid (show ∀ w':World,w'.heap[w.heap.size]?=some (.cells g.arr 60 (0,0))→w'.rangeAt w.heap.size (i'*25+1+k*3) d.cells.toList from fun w' h=>hd▸gp_rangeC h OK.out hkr hkc)
    clear hd hX hkr hkc hLj hjl hx hcell
    go_upto_region 8 with fail
    go_cut [37] (fun v wx=>v=.bool X∧Below wr.heap.size wr wx)
    case first =>
     refine wp_region_quiet_below (by kernel_rfl) (by kernel_rfl) ?_
     repeat (go_big_quiet_step (exact Calls.regrown_of (NW.out _)))
     refine wpQuiet_nil ?_
     rintro w' ⟨⟨dq,osq⟩,rfl⟩
     go_wp2_with fail
     go_meet
     exact ⟨rfl,below_regrown _ dq osq⟩
    case rest =>
     obtain ⟨wo,rfl⟩:∃ wo:World,wo=wr:=⟨_,rfl⟩
     obtain ⟨rfl,b4⟩:=hcut
     have RB4:=Lib.hid (RBH.out.over b4)
     have HB4:=Lib.hid (HB.out.trans (b4.mono (by omega)))
     clear b4 hq
     cases X
     ·go_wp2
      go_roundw
      case rel=>exact ⟨j+1,by omega,by go_num,by rw [HT.out]; exact RB4.out,HB4.out⟩
      case measure=>simp [intOf]; omega
     ·have RB5:=Lib.hid (RB4.out.put d)
      have KB5:=Lib.hid (HB4.out.trans (((Keeps.refl (·=B) wc).setRow (g:=B) rfl d.cells).below (Nat.le_of_lt RB4.out.lt) (fun m hm=>by omega)))
      go_wp2_with (first | ((with_reducible refine ld_mid1 rfl 30 _ rfl ?_); refine ⟨w.heap.size,i'*25+1+k*3,d.cells,_,rfl,RCF.out _ RB4.out.rf.hG,cell_row.1,rfl,cell_row.2,?_⟩) | ((with_reducible refine st_row1 rfl 30 _ _ rfl ?_); refine ⟨B,_,d.cells,_,rfl,rfl,RB4.out.hB,cell_row.2,rfl,cel_one _,?_⟩))
      go_roundw
      case rel=>exact ⟨j+1,by omega,by go_num,by rw [HT.out]; exact RB5.out,KB5.out⟩
      case measure=>simp [intOf]; omega
   ·obtain rfl:j=m:=by omega
    rw [List.take_of_length_le (by rw [LM.out]; exact Nat.le_refl _)] at BB
    have HCb:=Lib.hid (HC.out.trans BB.out)
    have HNb:=Lib.hid (show g.read epoch k=g.putAll k b (g.mem epoch) from by rw [HN.out,BB.out])
    clear HC HN BB
    go_wp2
    obtain ⟨wq,rfl⟩:∃ wq:World,wq=wr:=⟨_,rfl⟩
    go_loopw [14,48] (fun _ i wy=>∃ p:Nat,p≤j∧i=.int .i64 p∧RB w (g.putAll k b ((g.mem epoch).take p)) B b wy∧Keeps (·=w.heap.size) wq wy) (fun _ i _=>j - (intOf i).toNat)
    case atStart=>exact ⟨0,by omega,rfl,RBH.out,Keeps.refl _ _⟩
    case round =>
     obtain ⟨p,hp,rfl,rb,kp⟩:=hrel
     obtain ⟨h,hh⟩:∃ h,g.putAll k b ((g.mem epoch).take p)=h:=⟨_,rfl⟩
     rw [hh] at rb
     have RH:=Lib.hid rb
     have KP:=Lib.hid kp
     have HH:=Lib.hid hh
     clear rb kp hh
     by_cases hpj:p<j
     ·obtain ⟨i',h3,hx,-⟩:=LAT.out p (by rw [HM.out]; exact hpj)
      obtain ⟨bb,oo,rfl,hlo,hbk,hcell⟩:=HI.out p (by rw [HM.out]; exact hpj)
      have HP1:=Lib.hid (show g.putAll k b ((g.mem epoch).take (p+1))=h.put1 k b (i':Int) from by
       rw [List.take_succ_eq_append_getElem (by rw [HM.out]; exact hpj),Gp.putAll_snoc,HH.out,hx])
      rw [hx] at hcell
      rw [HBB.out] at hbk
      have c0:=((KP.out.cell (b:=bb) (o:=oo+p) (by omega) (by have:=RBH.out.lt; omega)).trans ((HB.out.cell (p:=⟨bb,oo+p,none⟩) hbk).trans hcell))
      have h3i:(i':Int)<3:=by omega
      clear hx hcell
      go_upto_region 14 with fail
      refine region_tail1 7 (by kernel_rfl) (by kernel_rfl) ?_
      intro wd hwd hwh
      have RD:=Lib.hid (RH.out.over hwd)
      have KD:=Lib.hid (KP.out.trans (Keeps.of_below hwd))
      obtain ⟨b0,b1,b2⟩:=cell_box RD.out.hB
      have hir:i'<h.r.length:=by rw [RD.out.rf.ok.r3]; exact h3
      obtain ⟨-,f0,f1,f2⟩:=gp_cellA (k:=k) RD.out.rf.hG RD.out.rf.ok hir (by rw [RD.out.rf.ok.c8 _ (List.getElem_mem hir)]; exact hk8)
      obtain ⟨⟨g0,g1,g2⟩,-⟩:=gp_cellA (k:=k) RD.out.rf.hG RD.out.rf.ok hir (by rw [RD.out.rf.ok.c8 _ (List.getElem_mem hir)]; exact hk8)
      have RS:=Lib.hid (RD.out.setC (i:=i') h3 hk8)
      clear hwd hwh c0
      simp only [List.take_succ_cons,List.take_zero,List.drop_succ_cons,List.drop_zero]
      repeat still_step
      refine wpStill_nil ?_
      go_wp2
      go_roundw
      case rel=>exact ⟨p+1,by omega,by go_num,by rw [HP1.out]; exact RS.out.1,KD.out.trans RS.out.2⟩
      case measure=>simp [intOf]; omega
     ·obtain rfl:p=j:=by omega
      rw [List.take_of_length_le (by rw [HM.out]; exact Nat.le_refl _)] at HH
      have HR:=Lib.hid (HNb.out.trans HH.out)
      have ZH:=Lib.hid (Gp.size RH.out.rf.ok)
      clear HNb HH
      go_wp2_with fail
      have RD:=Lib.hid (RH.out.over (Below.refl _ _).drew)
      clear RH KP
      obtain ⟨T,hT⟩:∃ T:World→Prop,T=fun w'=>w'.heap[w.heap.size]?=some (.cells h.arr 60 (0,0))∧w'.heap[B]?=some (.cells b.cells 30 (0,0)):=⟨_,rfl⟩
      have T1:∀ w',T w'→w'.heap[w.heap.size]?=some (.cells h.arr 60 (0,0)):=fun w' h=>by rw [hT] at h; exact h.1
      have T2:∀ w',T w'→w'.heap[B]?=some (.cells b.cells 30 (0,0)):=fun w' h=>by rw [hT] at h; exact h.2
      have T3:∀ w',w'.heap[w.heap.size]?=some (.cells h.arr 60 (0,0))→w'.heap[B]?=some (.cells b.cells 30 (0,0))→T w':=fun w' h1 h2=>by rw [hT]; exact ⟨h1,h2⟩
      clear hT
      refine wp_region_held_drew (S:=T) (by kernel_rfl) (T3 _ RD.out.rf.hG RD.out.hB) (fun hHeld=>?_)
      refine wt 0 (.agg h.arr) hHeld ?_ (hy:=yieldsIf_load_row (by rfl) 60 _ rfl w.heap.size rfl 60 h.arr (0,0) _ T1 gp_row.1 rfl (by rw [gp_row.2,ZH.out]))
      go_simp
      refine wt 1 (.agg b.cells) hHeld ?_ (hy:=yieldsIf_load_row (by rfl) 30 _ rfl B rfl 30 b.cells (0,0) _ T2 cell_row.1 rfl cell_row.2)
      go_simp
      refine wpAnyH_ready (rs:=[2]) (by kernel_rfl) (by simp) ?_
      refine AllReadyH.cons (o:=_) rfl (fun K hK=>?_) AllReadyH.nil
      refine step_store_row rfl 60 _ _ rfl (w.heap.size+1) h.arr rfl rfl 60 Gp.zero.arr RD.out.rf.hZ (by rw [gp_row.2,ZH.out]) (by rw [ZH.out]; rfl) (Gp.one _) ?_
      refine hK.out _ _ (T3 _ ((setRow_other _ _ _ _ (by omega)).trans RD.out.rf.hG) ((setRow_other _ _ _ _ (by omega)).trans RD.out.hB)) (fun hHeld2=>?_)
      clear hK K
      go_simp
      refine wpAnyH_ready (rs:=[3]) (by kernel_rfl) (by simp) ?_
      refine AllReadyH.cons (o:=_) rfl (fun K hK=>?_) AllReadyH.nil
      refine step_store_row rfl 30 _ _ rfl (w.heap.size+1+1) b.cells rfl rfl 30 Cel.zero.cells ((setRow_other _ _ _ _ (by omega)).trans RD.out.rf.hC) cell_row.2 rfl (cel_one _) ?_
      refine hK.out _ _ (T3 _ ((setRow_other _ _ _ _ (by omega)).trans ((setRow_other _ _ _ _ (by omega)).trans RD.out.rf.hG)) ((setRow_other _ _ _ _ (by omega)).trans ((setRow_other _ _ _ _ (by omega)).trans RD.out.hB))) (fun hHeld3=>?_)
      clear hK K
      go_simp
      refine wpAnyH_ready (rs:=[4]) (by kernel_rfl) (by simp) ?_
      refine AllReadyH.cons (o:=_) rfl (fun K hK=>?_) AllReadyH.nil
      go_simp
      refine hK.out _ _ hHeld3 (fun hHeld4=>?_)
      clear hK K
      refine wpAnyH_done (by kernel_rfl) ?_ _
      go_wp2
      refine bodyPost_ret (v:=.tuple #[.agg h.arr,.agg b.cells,.bool true]) (results_rows_tmp Tryz.results98 _ _ (w.heap.size+1) (w.heap.size+1+1) 60 30 h.arr b.cells _ _ _ rfl rfl rfl ((setRow_other _ _ _ _ (by omega)).trans (setRow_heap _ _ _ _ _ _ RD.out.rf.hZ)) (setRow_heap _ _ _ _ _ _ ((setRow_other _ _ _ _ (by omega)).trans RD.out.rf.hC)) gp_row.1 rfl (by rw [gp_row.2,ZH.out]) cell_row.1 rfl cell_row.2) rfl ?_
      exact ⟨by rw [HR.out,HCb.out,HD.out],RD.out.rf.done _ _⟩
end Go.Proofs.YtajegiifabfcjaaGreatDoor
namespace Go.Proofs.YtajegiifabfcjaaGreatDoor
open Go.RowKit
structure Cmd where
 op:Int
 who:Int
 key:Int
 new:Int
 typ:Int
 at':Int
 stays:Bool
 data:ByteArray
 want:ByteArray
abbrev cmdV (c:Cmd):Value:=.agg #[.int .i64 c.op,.int .i64 c.who,.int .i64 c.key,.int .i64 c.new,.int .i64 c.typ,.int .i64 c.at',.bool c.stays,.string c.data,.string c.want]
end Go.Proofs.YtajegiifabfcjaaGreatDoor
namespace Go.Proofs.YtajegiifabfcjaaGreatDoor
open Go.ChangeShapes Go.WideShapes Go.ChangeAt Go.RowKit Go.Deep
section
variable {H:Type} {enc:TypeId × Value→H} {w:World} {base:Nat}
theorem len9 {α:Type} {l:List α} (h:l.length=9):∃ a b c d e f g i j,l=[a,b,c,d,e,f,g,i,j]:=by
 match l,h with
 | [a,b,c,d,e,f,g,i,j],_=>exact ⟨a,b,c,d,e,f,g,i,j,rfl⟩
theorem trod_command {fuel:Nat} {cs:List Value} {x:DataW H × List MemPlace} (h:DataW.trod enc Tryz.prog w base (fun _=>true) true fuel 37 cs=some x) :
  ∃ c:Cmd,cs=[.int .i64 c.op,.int .i64 c.who,.int .i64 c.key,.int .i64 c.new,.int .i64 c.typ,.int .i64 c.at',.bool c.stays,.string c.data,.string c.want]∧(c.data.size≤maxLen∧c.want.size≤maxLen):=by
 obtain ⟨xs,n,_,hx,hcl,hxl,hf⟩:=DataW.trod_struct Tryz.underlying37 h
 have hC:Tryz.prog.cellsOf 37=9:=by kernel_rfl
 have hC3:Tryz.prog.cellsOf 3=1:=by kernel_rfl
 have hC9:Tryz.prog.cellsOf 9=1:=by kernel_rfl
 have hC4:Tryz.prog.cellsOf 4=1:=by kernel_rfl
 rw [hC] at hcl
 obtain ⟨c0,c1,c2,c3,c4,c5,c6,c7,c8,rfl⟩:=len9 hcl
 obtain ⟨y0,y1,y2,y3,y4,y5,y6,y7,y8,rfl⟩:=len9 hxl
 have f0:=hf 0 _ rfl
 have f1:=hf 1 _ rfl
 have f2:=hf 2 _ rfl
 have f3:=hf 3 _ rfl
 have f4:=hf 4 _ rfl
 have f5:=hf 5 _ rfl
 have f6:=hf 6 _ rfl
 have f7:=hf 7 _ rfl
 have f8:=hf 8 _ rfl
 simp only [List.getElem_toArray,List.getElem_cons_zero,List.getElem_cons_succ,hC3,hC9,hC4,List.drop_zero,List.drop_succ_cons,List.take_succ_cons,List.take_zero,List.getElem?_cons_zero,List.getElem?_cons_succ] at f0 f1 f2 f3 f4 f5 f6 f7 f8
 obtain ⟨i0,e0,_,_⟩:=DataW.trod_int Tryz.underlying3 f0
 obtain ⟨i1,e1,_,_⟩:=DataW.trod_int Tryz.underlying3 f1
 obtain ⟨i2,e2,_,_⟩:=DataW.trod_int Tryz.underlying3 f2
 obtain ⟨i3,e3,_,_⟩:=DataW.trod_int Tryz.underlying3 f3
 obtain ⟨i4,e4,_,_⟩:=DataW.trod_int Tryz.underlying3 f4
 obtain ⟨i5,e5,_,_⟩:=DataW.trod_int Tryz.underlying3 f5
 obtain ⟨b6,e6,_⟩:=DataW.trod_bool Tryz.underlying4 f6
 obtain ⟨s7,e7,_,h7⟩:=DataW.trod_string Tryz.underlying9 f7
 obtain ⟨s8,e8,_,h8⟩:=DataW.trod_string Tryz.underlying9 f8
 simp only [List.cons.injEq,and_true] at e0 e1 e2 e3 e4 e5 e6 e7 e8
 subst e0 e1 e2 e3 e4 e5 e6 e7 e8
 exact ⟨⟨i0,i1,i2,i3,i4,i5,b6,s7,s8⟩,rfl,h7,h8⟩
set_option maxRecDepth 100000 in
theorem open_command {r:Reach} {b0:Nat} {v:Value} {d:DataW H} {p:List MemPlace} (hv:Value.okWide Tryz.prog w r b0 37 v) (h:DataW.Trod enc Tryz.prog w base (fun _=>true) true 37 v d p) :
  ∃ c:Cmd,v=cmdV c∧(c.data.size≤maxLen∧c.want.size≤maxLen):=by
 obtain ⟨cs,rfl,hsz⟩:=okWide_struct Tryz.underlying37 hv
 obtain ⟨fuel,hf⟩:=h
 obtain ⟨c,hcs,hs⟩:=trod_command hf
 obtain ⟨l⟩:=cs
 simp only [Value.cells] at hcs
 subst hcs
 exact ⟨c,rfl,hs⟩
end
structure Ac where
 kind:ByteArray
 a:Int
 b:Int
 s:ByteArray
 k:Int
 st:St
 ra:Option Addr
 rc:Nat
 cm:Cmd
def Ac.cells (x:Ac):List Value:=[.string x.kind,.int .i64 x.a,.int .i64 x.b,.string x.s,.int .u64 x.k,.int .i64 x.st.gen,.slice x.ra x.st.regs.length x.rc,.int .i64 x.st.typ,.int .i64 x.st.holder,.bool x.st.stays,
 .int .i64 x.cm.op,.int .i64 x.cm.who,.int .i64 x.cm.key,.int .i64 x.cm.new,.int .i64 x.cm.typ,.int .i64 x.cm.at',.bool x.cm.stays,.string x.cm.data,.string x.cm.want]
def inI (x:Int):Prop:=-9223372036854775808≤x∧x≤9223372036854775807
structure AcOk (w:World) (x:Ac):Prop where
 str:StR w x.st x.ra
 ki:x.kind.size≤maxLen
 si:x.s.size≤maxLen
 ai:inI x.a
 bi:inI x.b
 ku:0≤x.k∧x.k≤18446744073709551615
 ci:x.cm.data.size≤maxLen∧x.cm.want.size≤maxLen
def ActsAt (w:World) (a:Option Addr) (l:List Ac):Prop :=
 ∀ i (h:i<l.length),AcOk w l[i]∧∃ b o,a=some ⟨b,o,none⟩∧b<w.heap.size∧w.rangeAt b (o+i*19) l[i].cells
section
variable {H:Type} {enc:TypeId × Value→H} {w:World} {base:Nat}
theorem len_s {α:Type} {l:List α} {n:Nat} (h:l.length=n+1):∃ a t,l=a :: t∧t.length=n:=by
 cases l with
 | nil=>cases h
 | cons a t=>exact ⟨a,t,rfl,by simpa using h⟩
theorem wf_i64 {n:Int} (h:(Lit.int .i64 n).wf=true):inI n:=by
 simp only [Lit.wf,Bool.and_eq_true,decide_eq_true_eq] at h
 exact h
theorem wf_u64 {n:Int} (h:(Lit.int .u64 n).wf=true):0≤n∧n≤18446744073709551615:=by
 simp only [Lit.wf,Bool.and_eq_true,decide_eq_true_eq] at h
 exact h
theorem trod_act {fuel:Nat} {cs:List Value} {x:DataW H × List MemPlace} (h:DataW.trod enc Tryz.prog w base (fun _=>true) true fuel 39 cs=some x) :
  ∃ y:Ac,cs=y.cells∧AcOk w y:=by
 obtain ⟨xs,n,_,hx,hcl,hxl,hf⟩:=DataW.trod_struct Tryz.underlying39 h
 have hC:Tryz.prog.cellsOf 39=19:=by kernel_rfl
 have hC3:Tryz.prog.cellsOf 3=1:=by kernel_rfl
 have hC9:Tryz.prog.cellsOf 9=1:=by kernel_rfl
 have hCu:Tryz.prog.cellsOf 32=1:=by kernel_rfl
 have hCs:Tryz.prog.cellsOf 35=5:=by kernel_rfl
 have hCc:Tryz.prog.cellsOf 37=9:=by kernel_rfl
 rw [hC] at hcl
 obtain ⟨c0,cs0,rfl,hcl0⟩:=len_s hcl
 obtain ⟨c1,cs1,rfl,hcl1⟩:=len_s hcl0
 obtain ⟨c2,cs2,rfl,hcl2⟩:=len_s hcl1
 obtain ⟨c3,cs3,rfl,hcl3⟩:=len_s hcl2
 obtain ⟨c4,cs4,rfl,hcl4⟩:=len_s hcl3
 obtain ⟨c5,cs5,rfl,hcl5⟩:=len_s hcl4
 obtain ⟨c6,cs6,rfl,hcl6⟩:=len_s hcl5
 obtain ⟨c7,cs7,rfl,hcl7⟩:=len_s hcl6
 obtain ⟨c8,cs8,rfl,hcl8⟩:=len_s hcl7
 obtain ⟨c9,cs9,rfl,hcl9⟩:=len_s hcl8
 obtain ⟨c10,cs10,rfl,hcl10⟩:=len_s hcl9
 obtain ⟨c11,cs11,rfl,hcl11⟩:=len_s hcl10
 obtain ⟨c12,cs12,rfl,hcl12⟩:=len_s hcl11
 obtain ⟨c13,cs13,rfl,hcl13⟩:=len_s hcl12
 obtain ⟨c14,cs14,rfl,hcl14⟩:=len_s hcl13
 obtain ⟨c15,cs15,rfl,hcl15⟩:=len_s hcl14
 obtain ⟨c16,cs16,rfl,hcl16⟩:=len_s hcl15
 obtain ⟨c17,cs17,rfl,hcl17⟩:=len_s hcl16
 obtain ⟨c18,cs18,rfl,hcl18⟩:=len_s hcl17
 obtain rfl:=List.length_eq_zero_iff.1 hcl18
 obtain ⟨y0,xs0,rfl,hxl0⟩:=len_s hxl
 obtain ⟨y1,xs1,rfl,hxl1⟩:=len_s hxl0
 obtain ⟨y2,xs2,rfl,hxl2⟩:=len_s hxl1
 obtain ⟨y3,xs3,rfl,hxl3⟩:=len_s hxl2
 obtain ⟨y4,xs4,rfl,hxl4⟩:=len_s hxl3
 obtain ⟨y5,xs5,rfl,hxl5⟩:=len_s hxl4
 obtain ⟨y6,xs6,rfl,hxl6⟩:=len_s hxl5
 obtain rfl:=List.length_eq_zero_iff.1 hxl6
 have f0:=hf 0 _ rfl
 have f1:=hf 1 _ rfl
 have f2:=hf 2 _ rfl
 have f3:=hf 3 _ rfl
 have f4:=hf 4 _ rfl
 have f5:=hf 5 _ rfl
 have f6:=hf 6 _ rfl
 simp only [List.getElem_toArray,List.getElem_cons_zero,List.getElem_cons_succ,hC3,hC9,hCu,hCs,hCc,List.drop_zero,List.drop_succ_cons,List.take_succ_cons,List.take_zero,List.getElem?_cons_zero,List.getElem?_cons_succ] at f0 f1 f2 f3 f4 f5 f6
 obtain ⟨s0,e0,_,h0⟩:=DataW.trod_string Tryz.underlying9 f0
 obtain ⟨i1,e1,_,h1⟩:=DataW.trod_int Tryz.underlying3 f1
 obtain ⟨i2,e2,_,h2⟩:=DataW.trod_int Tryz.underlying3 f2
 obtain ⟨s3,e3,_,h3⟩:=DataW.trod_string Tryz.underlying9 f3
 obtain ⟨i4,e4,_,h4⟩:=DataW.trod_int Tryz.underlying32 f4
 obtain ⟨st,ra,rc,e5,h5⟩:=trod_state f5
 obtain ⟨cm,e6,h6⟩:=trod_command f6
 simp only [List.cons.injEq,and_true] at e0 e1 e2 e3 e4 e5 e6
 obtain ⟨rfl,rfl,rfl,rfl,rfl⟩:=e5
 obtain ⟨rfl,rfl,rfl,rfl,rfl,rfl,rfl,rfl,rfl⟩:=e6
 subst e0 e1 e2 e3 e4
 exact ⟨⟨s0,i1,i2,s3,i4,st,ra,rc,cm⟩,rfl,h5,h0,h3,wf_i64 h1,wf_i64 h2,wf_u64 h4,h6⟩
theorem acts_list (w:World) (a:Addr):∀ n,(∀ i,i<n→∃ y:Ac,AcOk w y∧∀ j v,y.cells[j]?=some v→w.cell? ((a.add (i*19)).add j)=some v) →
  ∃ l:List Ac,l.length=n∧∀ i (h:i<l.length),AcOk w l[i]∧∀ j v,l[i].cells[j]?=some v→w.cell? ((a.add (i*19)).add j)=some v
 | 0,_=>⟨[],rfl,fun i h=>absurd h (by simp)⟩
 | k+1,key=>by
  obtain ⟨l,hl,hl2⟩:=acts_list w a k (fun i hi=>key i (by omega))
  obtain ⟨r,hr⟩:=key k (by omega)
  refine ⟨l ++ [r],by simp [hl],fun i h=>?_⟩
  by_cases hik:i<l.length
  ·rw [List.getElem_append_left hik]; exact hl2 i hik
  ·have:i=k:=by simp at h; omega
   subst this
   rw [List.getElem_append_right (by omega)]
   simp only [hl,Nat.sub_self,List.getElem_cons_zero]
   exact hr
set_option maxRecDepth 100000 in
theorem open_acts {r:Reach} {b0:Nat} {v:Value} {d:DataW H} {p:List MemPlace} (hv:Value.okWide Tryz.prog w r b0 22 v) (h:DataW.Trod enc Tryz.prog w base (fun _=>true) true 22 v d p) :
  ∃ (l:List Ac) (a:Option Addr) (cap:Nat),v=.slice a l.length cap∧(l.length≤maxLen∧ActsAt w a l):=by
 obtain ⟨a0,len,cap,rfl⟩:=okWide_slice Tryz.underlying22 hv
 obtain ⟨fuel,hf⟩:=h
 rcases open_slice Tryz.underlying22 hf with ⟨hcs,_⟩ | ⟨a',len',cap',m,n',D,Pl,hcs,hbs,hl,hm,hmm,hx1,hi⟩
 ·have:Value.slice a0 len cap=.slice none 0 0:=by simpa [Value.cells] using hcs
  cases this
  exact ⟨[],none,0,rfl,by simp,fun i hi=>absurd hi (by simp)⟩
 ·have:Value.slice a0 len cap=.slice (some a') len' cap':=by simpa [Value.cells] using hcs
  cases this
  have hC26:Tryz.prog.cellsOf 39=19:=by kernel_rfl
  have hml:len≤m:=by rw [hmm]; split <;> omega
  have key:∀ i,i<len→∃ y:Ac,AcOk w y∧∀ j v,y.cells[j]?=some v→w.cell? ((a'.add (i*19)).add j)=some v:=by
   intro i hi'
   obtain ⟨cs',hc,ht'⟩:=hi i (by omega)
   rw [hC26] at hc
   obtain ⟨q,hcs',hq⟩:=trod_act ht'
   obtain ⟨_,hlen,hat⟩:=World.cells?_some hc
   refine ⟨q,hq,fun j v hj=>?_⟩
   subst hcs'
   have hlt:j<q.cells.length:=(List.getElem?_eq_some_iff.1 hj).1
   have:=hat j (by first | omega | (rw [← hlen]; omega))
   rw [this,hj]
  obtain ⟨l,hll,hl2⟩:=acts_list w a' len key
  subst hll
  refine ⟨l,some a',cap,rfl,by omega,fun i (hi':i<l.length)=>?_⟩
  obtain ⟨h8,hc⟩:=hl2 i hi'
  refine ⟨h8,?_⟩
  obtain ⟨ab,ao,asp⟩:=a'
  have has:asp=none:=by
   cases asp with
   | none=>rfl
   | some z =>
    exfalso
    have c0:=(hl2 0 (by omega)).2 0 (.string l[0].kind) (by simp [Ac.cells])
    simp [Addr.add,World.cell?] at c0
    split at c0 <;> simp at c0
  subst has
  have hbk:=block_lt_of_cell ((hl2 0 (by omega)).2 0 (.string l[0].kind) (by simp [Ac.cells]))
  refine ⟨ab,ao,rfl,by simpa [Addr.add] using hbk,fun j v hj=>?_⟩
  have:=hc j v hj
  rw [Addr.add_mid,Addr.add_mid] at this
  exact this
end
end Go.Proofs.YtajegiifabfcjaaGreatDoor
namespace Go.Proofs.YtajegiifabfcjaaGreatDoor
open Go.RowKit
theorem light_any (s:St) (a:Option Addr) (cap:Nat) (w:World) :
  Calls Tryz.prog 44 #[stV s a cap] w fun e w'=>e=.returned (.bool (decide (s.regs.length≤6)))∧Below w.heap.size w w':=by
 obtain ⟨g,l,t,h,st⟩:=s
 go_enter Tryz.func44,Tryz.ntmps44
 go_wp2
 go_ret
 exact ⟨ret_bool (by simp; omega),bal w _⟩
end Go.Proofs.YtajegiifabfcjaaGreatDoor
namespace Go.Proofs.YtajegiifabfcjaaGreatDoor
open Go.RowKit Go.Sort
def lightB (c:Cmd):Bool:=decide (c.data.size≤20) && decide (c.want.size≤20)
theorem lightC_any (c:Cmd) (w:World) :
  Calls Tryz.prog 45 #[cmdV c] w fun e w'=>e=.returned (.bool (lightB c))∧Below w.heap.size w w':=by
 obtain ⟨op,who,key,new,typ,at_,stays,data,want⟩:=c
 by_cases h:(data.size:Int)≤20
 ·have HB:=Lib.hid (show lightB ⟨op,who,key,new,typ,at_,stays,data,want⟩=decide ((want.size:Int)≤20) from by unfold lightB; rw [decide_eq_true (show (data.size≤20) from by omega),Bool.true_and]; exact decide_eq_decide.2 (by dsimp only; omega))
  go_enter Tryz.func45,Tryz.ntmps45
  go_wp2
  go_ret
  exact ⟨ret_bool HB.out.symm,bal w _⟩
 ·have HB:=Lib.hid (show lightB ⟨op,who,key,new,typ,at_,stays,data,want⟩=false from by unfold lightB; rw [decide_eq_false (fun e=>h (by have e':data.size≤20:=e; omega))]; rfl)
  go_enter Tryz.func45,Tryz.ntmps45
  go_wp2
  go_ret
  exact ⟨ret_bool HB.out.symm,bal w _⟩
theorem light_x (s:St) (a:Option Addr) (cap:Nat) (w:World) (b:Bool) (h:decide (s.regs.length≤6)=b) :
  Calls Tryz.prog 44 #[stV s a cap] w fun e w'=>e=.returned (.bool b)∧Below w.heap.size w w':=by
 subst h; exact light_any s a cap w
theorem lightC_x (c:Cmd) (w:World) (b:Bool) (h:lightB c=b) :
  Calls Tryz.prog 45 #[cmdV c] w fun e w'=>e=.returned (.bool b)∧Below w.heap.size w w':=by
 subst h; exact lightC_any c w
theorem act_cells {w:World} {b o:Nat} {x:Ac} (h:w.rangeAt b o x.cells) :
  (w.cell? ⟨b,o,none⟩=some (.string x.kind)∧w.cell? ⟨b,o+1,none⟩=some (.int .i64 x.a)∧w.cell? ⟨b,o+2,none⟩=some (.int .i64 x.b)∧w.cell? ⟨b,o+3,none⟩=some (.string x.s)∧w.cell? ⟨b,o+4,none⟩=some (.int .u64 x.k)) ∧
  (w.cell? ⟨b,o+5,none⟩=some (.int .i64 x.st.gen)∧w.cell? ⟨b,o+6,none⟩=some (.slice x.ra x.st.regs.length x.rc)∧w.cell? ⟨b,o+7,none⟩=some (.int .i64 x.st.typ)∧w.cell? ⟨b,o+8,none⟩=some (.int .i64 x.st.holder)∧w.cell? ⟨b,o+9,none⟩=some (.bool x.st.stays)) ∧
  (w.cell? ⟨b,o+10,none⟩=some (.int .i64 x.cm.op)∧w.cell? ⟨b,o+11,none⟩=some (.int .i64 x.cm.who)∧w.cell? ⟨b,o+12,none⟩=some (.int .i64 x.cm.key)∧w.cell? ⟨b,o+13,none⟩=some (.int .i64 x.cm.new)∧w.cell? ⟨b,o+14,none⟩=some (.int .i64 x.cm.typ)∧w.cell? ⟨b,o+15,none⟩=some (.int .i64 x.cm.at')∧w.cell? ⟨b,o+16,none⟩=some (.bool x.cm.stays)∧w.cell? ⟨b,o+17,none⟩=some (.string x.cm.data)∧w.cell? ⟨b,o+18,none⟩=some (.string x.cm.want)) :=
 ⟨⟨h 0 _ rfl,h 1 _ rfl,h 2 _ rfl,h 3 _ rfl,h 4 _ rfl⟩,⟨h 5 _ rfl,h 6 _ rfl,h 7 _ rfl,h 8 _ rfl,h 9 _ rfl⟩,h 10 _ rfl,h 11 _ rfl,h 12 _ rfl,h 13 _ rfl,h 14 _ rfl,h 15 _ rfl,h 16 _ rfl,h 17 _ rfl,h 18 _ rfl⟩
theorem AcOk.below {w w':World} {x:Ac} (h:AcOk w x) (b:Below w.heap.size w w'):AcOk w' x:=⟨h.str.below b,h.ki,h.si,h.ai,h.bi,h.ku,h.ci⟩
theorem ActsAt.below {w w':World} {a:Option Addr} {l:List Ac} (h:ActsAt w a l) (b:Below w.heap.size w w'):ActsAt w' a l:=by
 intro i hi
 obtain ⟨h1,c,o,h2,h3,h4⟩:=h i hi
 exact ⟨h1.below b,c,o,h2,Nat.lt_of_lt_of_le h3 b.size,fun j v hv=>(b.cell (p:=⟨c,_,none⟩) h3).trans (h4 j v hv)⟩
set_option maxRecDepth 100000 in
set_option maxHeartbeats 2000000 in
theorem lightacts_any (l:List Ac) (a:Option Addr) (cap:Nat) (most:Nat) (w:World) (hl:l.length≤maxLen) (hr:ActsAt w a l) :
  Calls Tryz.prog 14 #[.slice a l.length cap,.int .i64 most] w fun e w'=>∃ b:Bool,e=.returned (.bool b)∧(b=true→l.length≤most∧∀ x∈l,x.s.size≤100)∧Below w.heap.size w w':=by
 unfold maxLen at hl
 have HR:=Lib.hid hr
 clear hr
 by_cases hm:l.length≤most
 ·have hmb:decide (most<l.length)=false:=by simp; omega
  go_enter Tryz.func14,Tryz.ntmps14
  go_wp2
  go_loopw [5] (fun i wr=>∃ k:Nat,k≤l.length∧i=.int .i64 k∧(∀ j (h:j<l.length),j<k→l[j].s.size≤100)∧Below w.heap.size w wr) (fun i _=>l.length - (intOf i).toNat)
  case atStart=>exact ⟨0,by omega,rfl,fun j _ h=>absurd h (by omega),Below.refl _ _⟩
  case round =>
   obtain ⟨k,hk,rfl,hS,hB⟩:=hrel
   have HS:=Lib.hid hS
   have HB:=Lib.hid hB
   clear hS hB
   by_cases hlt:k<l.length
   ·obtain ⟨ok,b,o,rfl,hb,hrange⟩:=HR.out k hlt
    have hrg:wr.rangeAt b (o+k*19) l[k].cells:=fun j v hv=>(HB.out.cell (p:=⟨b,_,none⟩) hb).trans (hrange j v hv)
    have okr:=ok.below HB.out
    obtain ⟨X,hX⟩:∃ X,l[k]=X:=⟨_,rfl⟩
    rw [hX] at hrg okr
    have HX:=Lib.hid hX
    obtain ⟨⟨c0,c1,c2,c3,c4⟩,⟨d0,d1,d2,d3,d4⟩,e0,e1,e2,e3,e4,e5,e6,e7,e8⟩:=act_cells hrg
    have OKR:=Lib.hid okr
    obtain ⟨B1,hB1⟩:∃ B1,decide (X.st.regs.length≤6)=B1:=⟨_,rfl⟩
    obtain ⟨B2,hB2⟩:∃ B2,lightB X.cm=B2:=⟨_,rfl⟩
    have LS:=Lib.hid (fun (w:World)=>light_x X.st X.ra X.rc w B1 hB1)
    have LC:=Lib.hid (fun (w:World)=>lightC_x X.cm w B2 hB2)
    clear hB1 hB2
    clear hrange hX hrg okr ok
    by_cases hs:X.s.size≤100
    ·have hsb:decide ((100:Int)<(X.s.size:Int))=false:=by simp; omega
     go_wp2_with fail
     refine (LS.out _).mono ?_
     rintro e w3 ⟨rfl,b3⟩
     have HB3:=Lib.hid (HB.out.trans (b3.mono HB.out.size))
     have hb3:b<w3.heap.size:=Nat.lt_of_lt_of_le (Nat.lt_of_lt_of_le hb HB.out.size) b3.size
     cases B1
     ·go_wp2
      go_ret
      exact ⟨false,rfl,fun h=>absurd h (by decide),HB3.out⟩
     ·have q:=fun (i:Nat)=>b3.cell (p:=⟨b,o+k*19+i,none⟩) (Nat.lt_of_lt_of_le hb HB.out.size)
      have e0':=(q 10).trans e0
      have e1':=(q 11).trans e1
      have e2':=(q 12).trans e2
      have e3':=(q 13).trans e3
      have e4':=(q 14).trans e4
      have e5':=(q 15).trans e5
      have e6':=(q 16).trans e6
      have e7':=(q 17).trans e7
      have e8':=(q 18).trans e8
      clear q c0 c1 c2 c3 c4 d0 d1 d2 d3 d4 e0 e1 e2 e3 e4 e5 e6 e7 e8 b3
      go_wp2_with fail
      refine (LC.out _).mono ?_
      rintro e w4 ⟨rfl,b4⟩
      have HB4:=Lib.hid (HB3.out.trans (b4.mono HB3.out.size))
      clear b4
      cases B2
      ·go_wp2
       go_ret
       exact ⟨false,rfl,fun h=>absurd h (by decide),HB4.out⟩
      ·go_wp2
       go_roundw
       case rel=>exact ⟨k+1,by omega,by go_num,fun j h hj=>by
        rcases (by omega:j<k∨j=k) with h1 | rfl
        ·exact HS.out j h h1
        ·rw [HX.out]; exact hs,HB4.out⟩
       case measure=>simp [intOf]; omega
    ·have hsb:decide ((100:Int)<(X.s.size:Int))=true:=by simp; omega
     go_wp2
     go_ret
     exact ⟨false,rfl,fun h=>absurd h (by decide),HB.out⟩
   ·go_wp2
    go_ret
    exact ⟨true,rfl,fun _=>⟨hm,fun x hx=>by
     obtain ⟨j,hj,rfl⟩:=List.mem_iff_getElem.1 hx
     exact HS.out j hj (by omega)⟩,HB.out⟩
 ·go_enter Tryz.func14,Tryz.ntmps14
  go_wp2
  go_ret
  exact ⟨false,rfl,fun h=>absurd h (by decide),Below.refl _ _⟩
def sUp:ByteArray:=⟨#[117,112]⟩
def sDown:ByteArray:=⟨#[100,111,119,110]⟩
def sSync:ByteArray:=⟨#[115,121,110,99]⟩
theorem act_row:Tryz.prog.underlying 39=some (.struct (Tryz.prog.fieldsOf 39))∧(Tryz.prog.info? 39).map (·.size)=some 19:=by constructor <;> kernel_rfl
theorem kd_up (kd:ByteArray):(kd.toList == [117,112])=decide (kd=sUp):=by rw [← ba_beq,show sUp.toList=[117,112] from by rw [ByteArray.toList_eq]; rfl]
theorem kd_down (kd:ByteArray):(kd.toList == [100,111,119,110])=decide (kd=sDown):=by rw [← ba_beq,show sDown.toList=[100,111,119,110] from by rw [ByteArray.toList_eq]; rfl]
theorem kd_sync (kd:ByteArray):(kd.toList == [115,121,110,99])=decide (kd=sSync):=by rw [← ba_beq,show sSync.toList=[115,121,110,99] from by rw [ByteArray.toList_eq]; rfl]
end Go.Proofs.YtajegiifabfcjaaGreatDoor
namespace Go.Proofs.YtajegiifabfcjaaGreatDoor
open Go.RowKit
def AllC (S:Cel→Prop) (g:Gp):Prop:=∀ r∈g.r,∀ x∈r.cells,S x
theorem AllC.mono {S T:Cel→Prop} {g:Gp} (h:AllC S g) (hST:∀ x,S x→T x):AllC T g:=fun r hr x hx=>hST x (h r hr x hx)
theorem AllC.setR {S:Cel→Prop} {g:Gp} (h:AllC S g) (i:Nat) {r:Rp} (hr:∀ x∈r.cells,S x):AllC S (g.setR i r):=by
 intro q hq x hx
 rcases List.mem_or_eq_of_mem_set hq with h1 | h1
 ·exact h q h1 x hx
 ·subst h1; exact hr x hx
theorem AllC.getR {S:Cel→Prop} {g:Gp} (h:AllC S g) (hz:S Cel.zero) (i:Nat):∀ x∈(g.r.getD i Rp.zero).cells,S x:=by
 intro x hx
 by_cases hi:i<g.r.length
 ·simp only [List.getD_eq_getElem?_getD,List.getElem?_eq_getElem hi,Option.getD_some] at hx
  exact h _ (List.getElem_mem hi) x hx
 ·rw [List.getD_eq_getElem?_getD,List.getElem?_eq_none (by omega)] at hx
  have:=(List.mem_replicate.1 (show x∈List.replicate 8 Cel.zero from hx)).2
  rw [this]; exact hz
theorem get_S {S:Cel→Prop} {r:Rp} (h:∀ x∈r.cells,S x) (hz:S Cel.zero) (k:Nat):S (r.get k):=by
 unfold Rp.get
 by_cases hk:k<r.cells.length
 ·simp only [List.getD_eq_getElem?_getD,List.getElem?_eq_getElem hk,Option.getD_some]
  exact h _ (List.getElem_mem hk)
 ·rw [List.getD_eq_getElem?_getD,List.getElem?_eq_none (by omega)]; exact hz
theorem AllC.setU {S:Cel→Prop} {g:Gp} (h:AllC S g) (i:Nat) (b:Bool):AllC S (g.setU i b):=h
theorem AllC.fenceTo {S:Cel→Prop} {g:Gp} (h:AllC S g) (hz:S Cel.zero) (ep:Int):∀ k,AllC S (g.fenceTo ep k)
 | 0=>h
 | k+1=>by
  have ih:=AllC.fenceTo h hz ep k
  unfold Gp.fenceTo
  split
  ·refine ih.setR k ?_
   have:=ih.getR hz k
   unfold Rp.fence
   split
   ·exact this
   ·exact this
  ·exact ih
theorem AllC.fence {S:Cel→Prop} {g:Gp} (h:AllC S g) (hz:S Cel.zero) (ep:Int):AllC S (g.fence ep):=by
 unfold Gp.fence; split
 ·exact h.fenceTo hz ep 3
 ·exact h
theorem bestL_S {S:Cel→Prop} (hz:S Cel.zero) (k:Nat) (l:List Rp) (h:∀ r∈l,S (r.get k)):S (bestL k l):=by
 have:∀ (l:List Rp) (b:Cel),S b→(∀ r∈l,S (r.get k))→S (l.foldl (fun b r=>if newerB (r.get k) b then r.get k else b) b):=by
  intro l
  induction l with
  | nil=>intro b hb _; exact hb
  | cons r l ih =>
   intro b hb hl
   refine ih _ ?_ (fun q hq=>hl q (by simp [hq]))
   dsimp only
   split
   ·exact hl r (by simp)
   ·exact hb
 exact this l _ hz h
theorem frm_mem {g:Gp} {ep:Int} {r:Rp} (h:r∈g.frm ep):∃ i,i<3∧g.isM ep i=true∧r=g.r.getD i Rp.zero:=by
 obtain ⟨x,hx,rfl⟩:=List.mem_map.1 h
 obtain ⟨i,rfl,hi,hm⟩:=Gp.mem_lt hx
 exact ⟨i,hi,hm,rfl⟩
theorem AllC.sync {S:Cel→Prop} {g:Gp} (h:AllC S g) (hz:S Cel.zero) (ep:Int) (i:Nat):AllC S (g.sync ep i):=by
 unfold Gp.sync; split
 ·refine h.setR i ?_
  intro x hx
  obtain ⟨j,hj,rfl⟩:=List.mem_iff_getElem.1 hx
  have hj8:j<8:=by have:=mergeL_len (g.frm ep); simp at hj; omega
  have e:=mergeL_get (g.frm ep) j hj8
  simp only [List.getD_eq_getElem?_getD,List.getElem?_eq_getElem hj,Option.getD_some] at e
  rw [e]
  refine bestL_S hz j _ (fun r hr=>?_)
  obtain ⟨i,-,-,rfl⟩:=frm_mem hr
  exact get_S (h.getR hz i) hz j
 ·exact h
theorem AllC.deliver {S:Cel→Prop} {g:Gp} (h:AllC S g) (hz:S Cel.zero) (i k:Nat) {c:Cel} (hc:S c):AllC S (g.deliver i k c):=by
 unfold Gp.deliver; split
 ·refine h.setR i ?_
  unfold Rp.admitC
  split
  ·intro x hx
   rcases List.mem_or_eq_of_mem_set hx with h1 | h1
   ·exact h.getR hz i x h1
   ·rw [h1]; exact hc
  ·exact h.getR hz i
 ·exact h
theorem AllC.putAll {S:Cel→Prop} (hz:S Cel.zero) (k:Nat) {c:Cel} (hc:S c):∀ (l:List Int) (g:Gp),AllC S g→AllC S (g.putAll k c l)
 | [],_,h=>h
 | x :: l,g,h=>by
  refine AllC.putAll hz k hc l _ (h.setR _ ?_)
  intro y hy
  rcases List.mem_or_eq_of_mem_set hy with h1 | h1
  ·exact h.getR hz _ y h1
  ·rw [h1]; exact hc
theorem AllC.start {S:Cel→Prop} (hz:S Cel.zero):AllC S Gp.start:=by
 intro r hr x hx
 have e:=(List.mem_replicate.1 hr).2
 subst e
 have:=(List.mem_replicate.1 (show x∈List.replicate 8 Cel.zero from hx)).2
 rw [this]; exact hz
def valG (g:Gp) (k i:Nat):Cel:=(g.r.getD i Rp.zero).get k
theorem valG_S {S:Cel→Prop} {g:Gp} (h:AllC S g) (hz:S Cel.zero) (k i:Nat):S (valG g k i):=get_S (h.getR hz i) hz k
theorem getR_setR {g:Gp} {i j:Nat} {r:Rp} (hi:i<g.r.length):(g.setR i r).r.getD j Rp.zero=if j=i then r else g.r.getD j Rp.zero:=by
 unfold Gp.setR
 by_cases h:j=i
 ·subst h; simp [hi]
 ·rw [if_neg h]; simp [List.getD_eq_getElem?_getD,List.getElem?_set_ne (Ne.symm h)]
theorem mem_two {g:Gp} {ep:Int} (h:2≤(g.mem ep).length) {i j:Nat} (hij:i<j) (hj:j<3):g.isM ep i=true∨g.isM ep j=true:=by
 have hl:(g.mem ep).length=(g.isM ep 0).toNat+(g.isM ep 1).toNat+(g.isM ep 2).toNat:=by
  unfold Gp.mem Gp.memTo
  rw [List.length_map,show List.range 3=[0,1,2] from rfl]
  cases h0:g.isM ep 0 <;> cases h1:g.isM ep 1 <;> cases h2:g.isM ep 2 <;> simp [h0,h1,h2]
 rw [hl] at h
 rcases (by omega:(i=0∧j=1)∨(i=0∧j=2)∨(i=1∧j=2)) with ⟨rfl,rfl⟩ | ⟨rfl,rfl⟩ | ⟨rfl,rfl⟩ <;>
  cases h0:g.isM ep 0 <;> cases h1:g.isM ep 1 <;> cases h2:g.isM ep 2 <;> simp [h0,h1,h2] at h ⊢
theorem mem_two' {g:Gp} {ep:Int} (h:2≤(g.mem ep).length):∃ i j,i<j∧j<3∧g.isM ep i=true∧g.isM ep j=true:=by
 have h01:=mem_two h (i:=0) (j:=1) (by omega) (by omega)
 have h02:=mem_two h (i:=0) (j:=2) (by omega) (by omega)
 have h12:=mem_two h (i:=1) (j:=2) (by omega) (by omega)
 cases h0:g.isM ep 0 <;> cases h1:g.isM ep 1 <;> cases h2:g.isM ep 2 <;> simp [h0,h1,h2] at h01 h02 h12
 ·exact ⟨1,2,by omega,by omega,h1,h2⟩
 ·exact ⟨0,2,by omega,by omega,h0,h2⟩
 ·exact ⟨0,1,by omega,by omega,h0,h1⟩
 ·exact ⟨0,1,by omega,by omega,h0,h1⟩
theorem mem_nat {g:Gp} {ep:Int}:∀ x∈g.mem ep,∃ i:Nat,x=i∧i<3:=fun x hx=>by
 obtain ⟨i,e,hi,-⟩:=Gp.mem_lt hx
 exact ⟨i,e,hi⟩
end Go.Proofs.YtajegiifabfcjaaGreatDoor
namespace Go.Proofs.YtajegiifabfcjaaGreatDoor
open Go.ChangeShapes Go.WideShapes Go.ChangeAt Go.RowKit Go.Deep
structure Ms where
 tt:Int
 at':Int
 c:Cel
 tag:Int
section
variable {H:Type} {enc:TypeId × Value→H} {w:World} {base:Nat}
end
end Go.Proofs.YtajegiifabfcjaaGreatDoor
