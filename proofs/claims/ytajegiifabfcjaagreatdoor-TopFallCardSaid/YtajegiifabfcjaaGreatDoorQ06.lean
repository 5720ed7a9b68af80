/-
  GFence, GDeliver, GSync
-/
import Derived.Test.YtajegiifabfcjaaGreatDoorQ05
import Derived.Great.BuildSlice
namespace Go.Proofs.YtajegiifabfcjaaGreatDoor
open Go.RowKit Go.Sort
structure GF (w:World) (h:Gp) (wx:World):Prop where
 below:Below w.heap.size w wx
 ok:h.ok
 hG:wx.heap[w.heap.size]?=some (.cells h.arr 60 (0,0))
 hZ:wx.heap[w.heap.size+1]?=some (.cells Gp.zero.arr 60 (0,0))
theorem GF.lt {w wx:World} {h:Gp} (f:GF w h wx):w.heap.size+1<wx.heap.size:=(Array.getElem?_eq_some_iff.1 f.hZ).1
theorem GF.over {w wx w':World} {h:Gp} (f:GF w h wx) (b:Below wx.heap.size wx w'):GF w h w' :=
 ⟨f.below.trans (b.mono f.below.size),f.ok,(b.block _ (by have:=f.lt; omega)).trans f.hG,(b.block _ f.lt).trans f.hZ⟩
theorem GF.setR {w wx:World} {h:Gp} (f:GF w h wx) {i:Nat} (hi:i<3) {r:Rp} (hr:r.cells.length=8):GF w (h.setR i r) (wx.setCells w.heap.size (i*25) r.arr.toList):=by
 have kp:=Keeps.setCells (S:=(·=w.heap.size)) rfl r.arr.toList (i*25) wx wx (Keeps.refl _ _)
 exact ⟨f.below.trans (kp.below f.below.size (fun m hm=>by omega)),f.ok.setR i hr,gp_setR f.hG f.ok (by rw [f.ok.r3]; exact hi) hr,(kp.block _ (by omega) f.lt).trans f.hZ⟩
theorem GF.done {w wx:World} {h:Gp} (f:GF w h wx) (cs:Array Value):Below w.heap.size w (wx.setRow (w.heap.size+1) cs) :=
 f.below.trans (((Keeps.refl (·=w.heap.size+1) wx).setRow rfl _).below f.below.size (fun m hm=>by omega))
def Gp.fenceTo (g:Gp) (epoch:Int):Nat→Gp
 | 0=>g
 | k+1=>if g.u.getD k false then (g.fenceTo epoch k).setR k (((g.fenceTo epoch k).r.getD k Rp.zero).fence epoch) else g.fenceTo epoch k
def Gp.fence (g:Gp) (epoch:Int):Gp:=if 2≤(g.mem (epoch - 1)).length then g.fenceTo epoch 3 else g
theorem Rp.fence_len (r:Rp) (epoch:Int):(r.fence epoch).cells.length=r.cells.length:=by unfold Rp.fence; split <;> rfl
theorem Gp.fenceTo_u (g:Gp) (epoch:Int):∀ k,(g.fenceTo epoch k).u=g.u
 | 0=>rfl
 | k+1=>by
  have ih:=Gp.fenceTo_u g epoch k
  unfold Gp.fenceTo
  split
  ·exact ih
  ·exact ih
theorem Gp.fenceTo_ok {g:Gp} (h:g.ok) (epoch:Int):∀ k,k≤3→(g.fenceTo epoch k).ok
 | 0,_=>h
 | k+1,hk=>by
  have ih:=Gp.fenceTo_ok h epoch k (by omega)
  unfold Gp.fenceTo
  split
  ·refine ih.setR k ?_
   rw [Rp.fence_len]
   have hl:k<(g.fenceTo epoch k).r.length:=by rw [ih.r3]; omega
   simp only [List.getD_eq_getElem?_getD,List.getElem?_eq_getElem hl,Option.getD_some]
   exact ih.c8 _ (List.getElem_mem hl)
  ·exact ih
theorem Gp.fence_ok {g:Gp} (h:g.ok) (epoch:Int):(g.fence epoch).ok:=by
 unfold Gp.fence; split
 ·exact Gp.fenceTo_ok h epoch 3 (by omega)
 ·exact h
set_option maxRecDepth 100000 in
set_option maxHeartbeats 2000000 in
theorem gfence_any (g:Gp) (epoch:Int) (w:World) (hg:g.ok) (he:-4611686018427387904≤epoch∧epoch≤4611686018427387904) :
  Calls Tryz.prog 99 #[.agg g.arr,.int .i64 epoch] w fun e w'=>e=.returned (.tuple #[.agg (g.fence epoch).arr,.bool (decide (2≤((g.fence epoch).mem epoch).length))])∧Below w.heap.size w w':=by
 have OK:=Lib.hid hg
 have Z:=Lib.hid (Gp.size hg)
 have q1:IntKind.i64.wrap (epoch - 1)=epoch - 1:=IntWalk.i64_in _ (by omega)
 clear hg
 go_enter Tryz.func99,Tryz.ntmps99
 go_upto_region 1 with fail
 obtain ⟨w1,hw1⟩:∃ w1,w1=(w.alloc (.cells g.arr 60)).alloc (.cells Gp.zero.arr 60):=⟨_,rfl⟩
 rw [← gp_zero_arr] at hw1
 rw [← hw1]
 rw [gp_zero_arr] at hw1
 have F1:=Lib.hid (show GF w g w1 from hw1▸⟨(bal w _).alloc (by simp) _,OK.out,heap_alloc2_old w _ _,heap_alloc2_new w _ _⟩)
 clear hw1
 go_wp2_with ((with_reducible refine ld_row1 rfl 60 _ rfl ?_); refine ⟨w.heap.size,_,g.arr,_,rfl,F1.out.hG,gp_row.1,rfl,by rw [gp_row.2,Z.out],?_⟩)
 refine (members_any g _ _ OK.out).mono ?_
 rintro e w2 ⟨a2,c2,rfl,-,b2⟩
 have F2:=Lib.hid (F1.out.over b2)
 obtain ⟨m,hm⟩:∃ m,(g.mem (epoch - 1)).length=m:=⟨_,rfl⟩
 rw [hm]
 have HM:=Lib.hid hm
 clear hm b2 F1
 obtain ⟨B,hB⟩:∃ B,decide ((2:Int)≤(m:Int))=B:=⟨_,rfl⟩
 have HB2:=Lib.hid hB
 go_upto_if 12 with fail
 clear hB
 go_cut [12] (fun _ wx=>GF w (g.fence epoch) wx)
 case first =>
  cases B
  ·have HF:=Lib.hid (show g.fence epoch=g from if_neg (by rw [HM.out]; have:=HB2.out; simp at this; omega))
   go_wp2
   go_meet
   rw [HF.out]
   exact F2.out
  ·have HF:=Lib.hid (show g.fence epoch=g.fenceTo epoch 3 from if_pos (by rw [HM.out]; have:=HB2.out; simp at this; omega))
   go_wp2
   go_loopw [6,13] (fun _ i wr=>∃ k:Nat,k≤3∧i=.int .i64 k∧GF w (g.fenceTo epoch k) wr) (fun _ i _=>3 - (intOf i).toNat)
   case atStart=>exact ⟨0,by omega,rfl,F2.out⟩
   case round =>
    obtain ⟨k,hk,rfl,gf⟩:=hrel
    obtain ⟨h,hh⟩:∃ h,g.fenceTo epoch k=h:=⟨_,rfl⟩
    rw [hh] at gf
    have HU:=Lib.hid (show h.u=g.u from hh▸g.fenceTo_u epoch k)
    have HS:=Lib.hid (show g.fenceTo epoch (k+1)=if g.u.getD k false then h.setR k ((h.r.getD k Rp.zero).fence epoch) else h from by rw [← hh]; rfl)
    have GFH:=Lib.hid gf
    have HH:=Lib.hid hh
    clear gf hh F2
    by_cases hk3:k<3
    ·have hkr:k<h.r.length:=by rw [GFH.out.ok.r3]; exact hk3
     have hku:k<h.u.length:=by rw [GFH.out.ok.u3]; exact hk3
     obtain ⟨u0,-⟩:=gp_up GFH.out.hG GFH.out.ok hku
     obtain ⟨U,hU⟩:∃ U,h.u[k]=U:=⟨_,rfl⟩
     rw [hU] at u0
     have HUU:=Lib.hid (show g.u.getD k false=U from by rw [← HU.out,← hU]; simp [hku])
     obtain ⟨R,hR⟩:∃ R,h.r[k]=R:=⟨_,rfl⟩
     have RG:=Lib.hid (show wr.rangeAt w.heap.size (k*25) R.arr.toList from hR▸(gp_range GFH.out.hG GFH.out.ok hkr).1)
     have R8:=Lib.hid (show R.cells.length=8 from hR▸GFH.out.ok.c8 _ (List.getElem_mem hkr))
     have HRR:=Lib.hid (show h.r.getD k Rp.zero=R from by rw [← hR]; simp [hkr])
     clear hR hU hku hkr
     cases U
     ·have HE:=Lib.hid (show g.fenceTo epoch (k+1)=h from by rw [HS.out,HUU.out]; rfl)
      go_wp2
      go_roundw
      case rel=>exact ⟨k+1,by omega,by go_num,by rw [HE.out]; exact GFH.out⟩
      case measure=>simp [intOf]; omega
     ·have HE:=Lib.hid (show g.fenceTo epoch (k+1)=h.setR k (R.fence epoch) from by rw [HS.out,HUU.out,HRR.out]; rfl)
      have ZR:=Lib.hid (Rp.size R8.out)
      go_wp2_with ((with_reducible refine ld_mid1 rfl 56 _ rfl ?_); refine ⟨w.heap.size,k*25,R.arr,_,rfl,RG.out,rp_row.1,rfl,by rw [rp_row.2.1,ZR.out],?_⟩)
      refine (fence_any R epoch _ R8.out he).mono ?_
      rintro e w3 ⟨rfl,b3⟩
      obtain ⟨Y,hY⟩:∃ Y,R.fence epoch=Y:=⟨_,rfl⟩
      have Y8:=Lib.hid (show Y.cells.length=8 from by rw [← hY,Rp.fence_len]; exact R8.out)
      rw [hY] at HE ⊢
      have F3:=Lib.hid (GFH.out.over b3)
      have ZY:=Lib.hid (Rp.size Y8.out)
      have TH:=Lib.hid (show w3.there w.heap.size (k*25) Y.arr.size from by rw [ZY.out]; exact (gp_range F3.out.hG F3.out.ok (by rw [F3.out.ok.r3]; exact hk3)).2)
      have F4:=Lib.hid (F3.out.setR hk3 Y8.out)
      clear hY b3 u0
      go_wp2_with ((with_reducible refine st_mid1 rfl 56 _ _ rfl ?_); refine ⟨w.heap.size,k*25,Y.arr,rfl,rfl,TH.out,by rw [rp_row.2.1,ZY.out],Rp.one _,?_⟩)
      go_roundw
      case rel=>exact ⟨k+1,by omega,by go_num,by rw [HE.out]; exact F4.out⟩
      case measure=>simp [intOf]; omega
    ·obtain rfl:k=3:=by omega
     go_wp2
     go_meet
     rw [HF.out,HH.out]
     exact GFH.out
 case rest =>
  obtain ⟨Y,hY⟩:∃ Y,g.fence epoch=Y:=⟨_,rfl⟩
  rw [hY] at hcut
  have FC:=Lib.hid hcut
  have HY:=Lib.hid hY
  have ZY:=Lib.hid (Gp.size hcut.ok)
  clear hcut F2 hY
  go_wp2_with fail
  obtain ⟨S,hS⟩:∃ S:World→Prop,S=fun w'=>w'.heap[w.heap.size]?=some (.cells Y.arr 60 (0,0)):=⟨_,rfl⟩
  have S1:∀ w',S w'→w'.heap[w.heap.size]?=some (.cells Y.arr 60 (0,0)):=fun w' h=>by rw [hS] at h; exact h
  have S2:∀ w',w'.heap[w.heap.size]?=some (.cells Y.arr 60 (0,0))→S w':=fun w' h=>by rw [hS]; exact h
  clear hS
  refine wp_region_held_drew (S:=S) (by kernel_rfl) (S2 _ FC.out.hG) (fun hHeld=>?_)
  refine wt 0 (.agg Y.arr) hHeld ?_ (hy:=yieldsIf_load_row (by rfl) 60 _ rfl w.heap.size rfl 60 Y.arr (0,0) _ S1 gp_row.1 rfl (by rw [gp_row.2,ZY.out]))
  go_simp
  refine wt 1 (.agg Y.arr) hHeld ?_ (hy:=yieldsIf_load_row (by rfl) 60 _ rfl w.heap.size rfl 60 Y.arr (0,0) _ S1 gp_row.1 rfl (by rw [gp_row.2,ZY.out]))
  go_simp
  refine wt 2 (.int .i64 epoch) hHeld ?_
  go_simp
  refine wpAnyH_ready (rs:=[3]) (by kernel_rfl) (by simp) ?_
  have FD:=Lib.hid (show GF w Y wc.drew from FC.out.over (Below.refl _ _).drew)
  clear FC
  refine AllReadyH.cons (o:=_) rfl (fun K hK=>?_) AllReadyH.nil
  ·go_simp
   refine (members_any Y epoch _ FD.out.ok).mono ?_
   rintro e w7 ⟨a7,c7,rfl,-,b7⟩
   have F7:=Lib.hid (FD.out.over b7)
   obtain ⟨n,hn⟩:∃ n,(Y.mem epoch).length=n:=⟨_,rfl⟩
   rw [hn]
   have HN:=Lib.hid hn
   clear hn b7 FD
   refine hK.out _ _ (S2 _ F7.out.hG) (fun hHeld2=>?_)
   clear hK K
   refine wt 4 (.int .i64 n) hHeld2 ?_
   go_simp
   refine wt 5 (.bool (decide ((2:Int)≤(n:Int)))) hHeld2 ?_
   go_simp
   refine wpAnyH_ready (rs:=[6]) (by kernel_rfl) (by simp) ?_
   refine AllReadyH.cons (o:=_) rfl (fun K hK=>?_) AllReadyH.nil
   refine step_store_row rfl 60 _ _ rfl (w.heap.size+1) Y.arr rfl rfl 60 Gp.zero.arr F7.out.hZ (by rw [gp_row.2,ZY.out]) (by rw [ZY.out]; rfl) (Gp.one _) ?_
   refine hK.out _ _ (S2 _ ((setRow_other _ _ _ _ (by omega)).trans F7.out.hG)) (fun hHeld3=>?_)
   clear hK K
   go_simp
   refine wpAnyH_ready (rs:=[7]) (by kernel_rfl) (by simp) ?_
   refine AllReadyH.cons (o:=_) rfl (fun K hK=>?_) AllReadyH.nil
   go_simp
   refine hK.out _ _ hHeld3 (fun hHeld4=>?_)
   clear hK K
   refine wpAnyH_done (by kernel_rfl) ?_ _
   go_wp2
   refine bodyPost_ret (v:=.tuple #[.agg Y.arr,.bool (decide ((2:Int)≤(n:Int)))]) (results_row_tmp Tryz.results99 _ _ (w.heap.size+1) 60 Y.arr (0,0) _ _ rfl rfl (setRow_heap _ _ _ _ _ _ F7.out.hZ) gp_row.1 rfl (by rw [gp_row.2,ZY.out])) rfl ?_
   exact ⟨by rw [HY.out,HN.out]; simp; omega,F7.out.done _⟩
theorem yieldsIf_load_midA {P:Program} {ops:Array Oper} {S:World→Prop} {op:Oper} {a:Act} (hw:Region.wanted op (yielded ops a.tmps)=true) (ty:TypeId) (x:Operand) (ho:op.op=.load ty x)
  (b o:Nat) (hx:a.eval x=.pointer (some ⟨b,o,none⟩)) (cs:Array Value) (d:TypeDesc) (hS:∀ w,S w→w.rangeAt b o cs.toList)
  (hu:P.underlying ty=some d) (hd:d.isRow=true) (hi:(P.info? ty).map (·.size)=some cs.size):YieldsIf P ops S op (.agg cs) a:=by
 have:=yieldsIf_load_mid (ops:=ops) hw ty x ho b o hx cs.toList d hS hu hd (by simpa using hi)
 simpa using this
def msgC (tt at':Int) (c:Cel) (tag:Int):Array Value:=#[.int .i64 tt,.int .i64 at',.int .i64 c.e,.int .i64 c.n,.string c.d,.int .i64 tag]
theorem msg_box {w:World} {b:Nat} {tt at' tag:Int} {c:Cel} {T:TypeId} (h:w.heap[b]?=some (.cells (msgC tt at' c tag) T (0,0))):w.cell? ⟨b,0,none⟩=some (.int .i64 tt)∧w.cell? ⟨b,1,none⟩=some (.int .i64 at')∧w.cell? ⟨b,2,none⟩=some (.int .i64 c.e)∧w.cell? ⟨b,3,none⟩=some (.int .i64 c.n)∧w.cell? ⟨b,4,none⟩=some (.string c.d):=by
 unfold msgC at h
 simp [World.cell?,h]
def Gp.deliver (g:Gp) (tt at':Nat) (c:Cel):Gp:=if g.u.getD tt false then g.setR tt ((g.r.getD tt Rp.zero).admitC at' c) else g
def Gp.delivers (g:Gp) (tt:Nat) (c:Cel):Bool:=g.u.getD tt false && decide (c.e=(g.r.getD tt Rp.zero).floor)
theorem Gp.getR {g:Gp} (h:g.ok) {i:Nat} (hi:i<3):(g.r.getD i Rp.zero).cells.length=8:=by
 have hl:i<g.r.length:=by rw [h.r3]; exact hi
 simp only [List.getD_eq_getElem?_getD,List.getElem?_eq_getElem hl,Option.getD_some]
 exact h.c8 _ (List.getElem_mem hl)
theorem Gp.deliver_ok {g:Gp} (h:g.ok) {tt at':Nat} (ht:tt<3) (c:Cel):(g.deliver tt at' c).ok:=by
 unfold Gp.deliver
 split
 ·exact h.setR tt (by rw [Rp.admit_len]; exact Gp.getR h ht)
 ·exact h
structure DF (w:World) (h:Gp) (cs:Array Value) (wx:World):Prop where
 below:Below w.heap.size w wx
 ok:h.ok
 hG:wx.heap[w.heap.size]?=some (.cells h.arr 60 (0,0))
 hM:wx.heap[w.heap.size+1]?=some (.cells cs 125 (0,0))
 hZ:wx.heap[w.heap.size+1+1]?=some (.cells Gp.zero.arr 60 (0,0))
theorem DF.lt {w wx:World} {h:Gp} {cs:Array Value} (f:DF w h cs wx):w.heap.size+1+1<wx.heap.size:=(Array.getElem?_eq_some_iff.1 f.hZ).1
theorem DF.over {w wx w':World} {h:Gp} {cs:Array Value} (f:DF w h cs wx) (b:Below wx.heap.size wx w'):DF w h cs w' :=
 ⟨f.below.trans (b.mono f.below.size),f.ok,(b.block _ (by have:=f.lt; omega)).trans f.hG,(b.block _ (by have:=f.lt; omega)).trans f.hM,(b.block _ f.lt).trans f.hZ⟩
theorem DF.setR {w wx:World} {h:Gp} {cs:Array Value} (f:DF w h cs wx) {i:Nat} (hi:i<3) {r:Rp} (hr:r.cells.length=8):DF w (h.setR i r) cs (wx.setCells w.heap.size (i*25) r.arr.toList):=by
 have kp:=Keeps.setCells (S:=(·=w.heap.size)) rfl r.arr.toList (i*25) wx wx (Keeps.refl _ _)
 have:=f.lt
 exact ⟨f.below.trans (kp.below f.below.size (fun m hm=>by omega)),f.ok.setR i hr,gp_setR f.hG f.ok (by rw [f.ok.r3]; exact hi) hr,(kp.block _ (by omega) (by omega)).trans f.hM,(kp.block _ (by omega) f.lt).trans f.hZ⟩
theorem DF.done {w wx:World} {h:Gp} {cs:Array Value} (f:DF w h cs wx) (cs':Array Value):Below w.heap.size w (wx.setRow (w.heap.size+1+1) cs') :=
 f.below.trans (((Keeps.refl (·=w.heap.size+1+1) wx).setRow rfl _).below f.below.size (fun m hm=>by omega))
theorem DF.other {w wx:World} {h:Gp} {cs:Array Value} (f:DF w h cs wx) {V:Nat} (hV:w.heap.size+1+1<V) (cs':Array Value):DF w h cs (wx.setRow V cs'):=by
 have kp:=(Keeps.refl (·=V) wx).setRow (g:=V) rfl cs'
 have:=f.lt
 exact ⟨f.below.trans (kp.below f.below.size (fun m hm=>by omega)),f.ok,(kp.block _ (by omega) (by omega)).trans f.hG,(kp.block _ (by omega) (by omega)).trans f.hM,(kp.block _ (by omega) f.lt).trans f.hZ⟩
set_option maxRecDepth 100000 in
set_option maxHeartbeats 2000000 in
theorem gdeliver_any (g:Gp) (tt at':Nat) (c:Cel) (tag:Int) (w:World) (hg:g.ok) (hto:tt<3) (hat:at'<8) :
  Calls Tryz.prog 80 #[.agg g.arr,.agg #[.int .i64 tt,.int .i64 at',.int .i64 c.e,.int .i64 c.n,.string c.d,.int .i64 tag]] w fun e w'=>e=.returned (.tuple #[.agg (g.deliver tt at' c).arr,.bool (g.delivers tt c)])∧Below w.heap.size w w':=by
 have OK:=Lib.hid hg
 have Z:=Lib.hid (Gp.size hg)
 have hti:decide ((tt:Int)<3)=true:=by simp; omega
 have htr:tt<g.r.length:=by rw [hg.r3]; exact hto
 have htu:tt<g.u.length:=by rw [hg.u3]; exact hto
 clear hg
 go_enter Tryz.func80,Tryz.ntmps80
 go_upto_region 1 with fail
 obtain ⟨w1,hw1⟩:∃ w1,w1=((w.alloc (.cells g.arr 60)).alloc (.cells (msgC tt at' c tag) 125)).alloc (.cells Gp.zero.arr 60):=⟨_,rfl⟩
 have hw1':=hw1
 rw [← gp_zero_arr] at hw1
 unfold msgC at hw1
 rw [← hw1]
 clear hw1
 have F1:=Lib.hid (show DF w g (msgC tt at' c tag) w1 from hw1'▸⟨bal3a w _ _ _,OK.out,(heap3 w _ _ _).1,(heap3 w _ _ _).2.1,(heap3 w _ _ _).2.2⟩)
 clear hw1'
 obtain ⟨m0,m1,m2,m3,m4⟩:=msg_box F1.out.hM
 obtain ⟨u0,-⟩:=gp_up F1.out.hG F1.out.ok htu
 obtain ⟨U,hU⟩:∃ U,g.u[tt]=U:=⟨_,rfl⟩
 rw [hU] at u0
 obtain ⟨R,hR⟩:∃ R,g.r[tt]=R:=⟨_,rfl⟩
 have R8:=Lib.hid (show R.cells.length=8 from hR▸OK.out.c8 _ (List.getElem_mem htr))
 have RG:=Lib.hid (show ∀ w':World,w'.heap[w.heap.size]?=some (.cells g.arr 60 (0,0))→w'.rangeAt w.heap.size (tt*25) R.arr.toList from fun w' h=>hR▸(gp_range h OK.out htr).1)
 have HD:=Lib.hid (show g.deliver tt at' c=(if U then g.setR tt (R.admitC at' c) else g)∧g.delivers tt c=(U && decide (c.e=R.floor)) from by
  unfold Gp.deliver Gp.delivers
  rw [← hU,← hR]
  simp [htr,htu])
 clear hU hR htr htu
 cases U
 ·go_wp2_with (first | ((with_reducible refine ld_row1 rfl 60 _ rfl ?_); refine ⟨w.heap.size,_,g.arr,_,rfl,F1.out.hG,gp_row.1,rfl,by rw [gp_row.2,Z.out],?_⟩) | ((with_reducible refine st_row1 rfl 60 _ _ rfl ?_); refine ⟨w.heap.size+1+1,_,g.arr,_,rfl,rfl,F1.out.hZ,by rw [gp_row.2,Z.out],by rw [Z.out]; rfl,Gp.one _,?_⟩))
  refine bodyPost_ret (v:=.tuple #[.agg g.arr,.bool false]) (results_row_tmp Tryz.results80 _ _ (w.heap.size+1+1) 60 g.arr (0,0) _ _ rfl rfl (setRow_heap _ _ _ _ _ _ F1.out.hZ) gp_row.1 rfl (by rw [gp_row.2,Z.out])) rfl ?_
  exact ⟨by rw [HD.out.1,HD.out.2]; rfl,F1.out.done _⟩
 ·go_upto_region 3 with fail
  obtain ⟨Y,hY⟩:∃ Y,R.admitC at' c=Y:=⟨_,rfl⟩
  obtain ⟨X,hX⟩:∃ X,decide (c.e=R.floor)=X:=⟨_,rfl⟩
  have Y8:=Lib.hid (show Y.cells.length=8 from by rw [← hY,Rp.admit_len]; exact R8.out)
  have HE:=Lib.hid (show g.deliver tt at' c=g.setR tt Y∧g.delivers tt c=X from by rw [HD.out.1,HD.out.2,hY,hX]; exact ⟨rfl,rfl⟩)
  have AD:=Lib.hid (fun (w:World)=>admit_x R at' at' rfl c w R8.out hat Y hY X hX)
  have ZR:=Lib.hid (Rp.size R8.out)
  have ZY:=Lib.hid (Rp.size Y8.out)
  clear hY hX u0
  go_cut [6,7] (fun v6 v7 wx=>∃ V,v6=.pointer (some ⟨V,0,none⟩)∧v7=.bool X∧w.heap.size+1+1<V∧wx.heap[V]?=some (.cells Y.arr 56 (0,0))∧DF w g (msgC tt at' c tag) wx)
  case first =>
   obtain ⟨S,hS⟩:∃ S:World→Prop,S=fun w'=>DF w g (msgC tt at' c tag) w':=⟨_,rfl⟩
   have S1:∀ w',S w'→w'.heap[w.heap.size]?=some (.cells g.arr 60 (0,0)):=fun w' h=>by rw [hS] at h; exact h.hG
   have S2:∀ w',S w'→w'.heap[w.heap.size+1]?=some (.cells (msgC tt at' c tag) 125 (0,0)):=fun w' h=>by rw [hS] at h; exact h.hM
   have S3:∀ w',DF w g (msgC tt at' c tag) w'→S w':=fun w' h=>by rw [hS]; exact h
   have S4:∀ w',S w'→DF w g (msgC tt at' c tag) w':=fun w' h=>by rw [hS] at h; exact h
   clear hS m0 m1 m2 m3 m4
   refine wp_region_held_drew (S:=S) (by kernel_rfl) (S3 _ (F1.out.over (Below.refl _ _).drew)) (fun hHeld=>?_)
   refine wt 0 (.pointer (some ⟨w.heap.size+1,0,none⟩)) hHeld ?_
   go_simp
   refine wt 1 (.int .i64 tt) hHeld ?_ (hy:=Or.inl ⟨by rfl,fun w' hSw=>by obtain ⟨m0,m1,m2,m3,m4⟩:=msg_box (S2 w' hSw); go_simp⟩)
   go_simp
   refine wt 2 (.pointer (some ⟨w.heap.size,0,none⟩)) hHeld ?_
   go_simp
   refine wt 3 (.pointer (some ⟨w.heap.size,tt*25,none⟩)) hHeld ?_ (hy:=Or.inl ⟨by rfl,fun w' hSw=>by go_simp; intro h; omega⟩)
   go_simp
   refine wt 4 (.agg R.arr) hHeld ?_ (hy:=yieldsIf_load_midA (by rfl) 56 _ rfl w.heap.size (tt*25) rfl R.arr _ (fun w' h=>RG.out w' (S1 w' h)) rp_row.1 rfl (by rw [rp_row.2.1,ZR.out]))
   go_simp
   refine wt 5 (.pointer (some ⟨w.heap.size+1,1,none⟩)) hHeld ?_
   go_simp
   refine wt 6 (.int .i64 at') hHeld ?_ (hy:=Or.inl ⟨by rfl,fun w' hSw=>by obtain ⟨m0,m1,m2,m3,m4⟩:=msg_box (S2 w' hSw); go_simp⟩)
   go_simp
   refine wt 7 (.pointer (some ⟨w.heap.size+1,2,none⟩)) hHeld ?_
   go_simp
   refine wt 8 (.agg #[.int .i64 c.e,.int .i64 c.n,.string c.d]) hHeld ?_ (hy:=Or.inl ⟨by rfl,fun w' hSw=>by obtain ⟨m0,m1,m2,m3,m4⟩:=msg_box (S2 w' hSw); go_simp⟩)
   go_simp
   refine wpAnyH_ready (rs:=[9,13]) (by kernel_rfl) (by simp) ?_
   refine AllReadyH.cons (o:=_) rfl (fun K hK=>?_) (AllReadyH.cons (o:=_) rfl (fun K hK=>?_) AllReadyH.nil)
   ·go_simp
    refine (AD.out _).mono ?_
    rintro e w7 ⟨rfl,b7⟩
    have F7:=Lib.hid ((S4 _ hHeld).over b7)
    have hz7:w1.heap.size≤w7.heap.size:=b7.size
    refine hK.out _ _ (S3 _ F7.out) (fun hHeld2=>?_)
    clear hK K b7
    refine wt 10 (.tuple #[.agg Y.arr,.bool X]) hHeld2 ?_
    go_simp
    refine wt 11 (.agg Y.arr) hHeld2 ?_
    go_simp
    refine wt 12 (.bool X) hHeld2 ?_
    go_simp
    refine wpAnyH_ready (rs:=[13]) (by kernel_rfl) (by simp) ?_
    refine AllReadyH.cons (o:=_) rfl (fun K hK=>?_) AllReadyH.nil
    go_simp
    have HV:=Lib.hid (show (w7.alloc (.cells Rp.zero.arr 56)).heap[w7.heap.size]?=some (.cells Rp.zero.arr 56 (0,0)) from heap_alloc_new _ _)
    have F8:=Lib.hid (F7.out.over (bal w7 (.cells Rp.zero.arr 56)))
    obtain ⟨w8,hw8⟩:∃ w8,w8=w7.alloc (.cells Rp.zero.arr 56):=⟨_,rfl⟩
    rw [← hw8] at HV F8
    rw [rp_zero_arr] at hw8
    rw [← hw8]
    clear hw8
    refine hK.out _ _ (S3 _ F8.out) (fun hHeld3=>?_)
    clear hK K
    refine wpAnyH_ready (rs:=[14]) (by kernel_rfl) (by simp) ?_
    refine AllReadyH.cons (o:=_) rfl (fun K hK=>?_) AllReadyH.nil
    refine step_store_row rfl 56 _ _ rfl w7.heap.size Y.arr rfl rfl 56 Rp.zero.arr HV.out (by rw [rp_row.2.1,ZY.out]) (by rw [ZY.out]; rfl) (Rp.one _) ?_
    refine hK.out _ _ (S3 _ (F8.out.other (by have:=F7.out.lt; omega) Y.arr)) (fun hHeld4=>?_)
    clear hK K
    go_simp
    refine wpAnyH_ready (rs:=[15]) (by kernel_rfl) (by simp) ?_
    refine AllReadyH.cons (o:=_) rfl (fun K hK=>?_) AllReadyH.nil
    go_simp
    refine hK.out _ _ hHeld4 (fun hHeld5=>?_)
    clear hK K
    refine wpAnyH_done (by kernel_rfl) ?_ _
    go_wp2_with fail
    go_meet
    exact ⟨w7.heap.size,rfl,rfl,by have:=F7.out.lt; omega,setRow_heap _ _ _ _ _ _ HV.out,S4 _ hHeld5⟩
   ·go_simp
    have HV:=Lib.hid (show (w1.alloc (.cells Rp.zero.arr 56)).drew.heap[w1.heap.size]?=some (.cells Rp.zero.arr 56 (0,0)) from heap_alloc_new _ _)
    have F2:=Lib.hid (show DF w g (msgC tt at' c tag) (w1.alloc (.cells Rp.zero.arr 56)).drew from F1.out.over (bal w1 (.cells Rp.zero.arr 56)).drew)
    have hV:w.heap.size+1+1<w1.heap.size:=F1.out.lt
    obtain ⟨V,hVV⟩:∃ V,w1.heap.size=V:=⟨_,rfl⟩
    obtain ⟨w8,hw8⟩:∃ w8,w8=(w1.alloc (.cells Rp.zero.arr 56)).drew:=⟨_,rfl⟩
    rw [← hw8] at HV F2
    rw [rp_zero_arr] at hw8
    rw [← hw8]
    clear hw8
    rw [hVV] at HV hV ⊢
    clear hVV
    refine hK.out _ _ (S3 _ F2.out) (fun hHeld2=>?_)
    clear hK K
    refine wpAnyH_ready (rs:=[9]) (by kernel_rfl) (by simp) ?_
    refine AllReadyH.cons (o:=_) rfl (fun K hK=>?_) AllReadyH.nil
    go_simp
    refine (AD.out _).mono ?_
    rintro e w7 ⟨rfl,b7⟩
    have F7:=Lib.hid (F2.out.over b7)
    have HV7:=Lib.hid ((b7.block _ (Array.getElem?_eq_some_iff.1 HV.out).1).trans HV.out)
    refine hK.out _ _ (S3 _ F7.out) (fun hHeld3=>?_)
    clear hK K b7
    refine wt 10 (.tuple #[.agg Y.arr,.bool X]) hHeld3 ?_
    go_simp
    refine wt 11 (.agg Y.arr) hHeld3 ?_
    go_simp
    refine wt 12 (.bool X) hHeld3 ?_
    go_simp
    refine wpAnyH_ready (rs:=[14]) (by kernel_rfl) (by simp) ?_
    refine AllReadyH.cons (o:=_) rfl (fun K hK=>?_) AllReadyH.nil
    refine step_store_row rfl 56 _ _ rfl V Y.arr rfl rfl 56 Rp.zero.arr HV7.out (by rw [rp_row.2.1,ZY.out]) (by rw [ZY.out]; rfl) (Rp.one _) ?_
    refine hK.out _ _ (S3 _ (F7.out.other hV Y.arr)) (fun hHeld4=>?_)
    clear hK K
    go_simp
    refine wpAnyH_ready (rs:=[15]) (by kernel_rfl) (by simp) ?_
    refine AllReadyH.cons (o:=_) rfl (fun K hK=>?_) AllReadyH.nil
    go_simp
    refine hK.out _ _ hHeld4 (fun hHeld5=>?_)
    clear hK K
    refine wpAnyH_done (by kernel_rfl) ?_ _
    go_wp2_with fail
    go_meet
    exact ⟨V,rfl,rfl,hV,setRow_heap _ _ _ _ _ _ HV7.out,S4 _ hHeld5⟩
  case rest =>
   obtain ⟨V,rfl,rfl,hV,hc,f⟩:=hcut
   obtain ⟨m0,-⟩:=msg_box f.hM
   have FD:=Lib.hid f
   have HC:=Lib.hid hc
   have TH:=Lib.hid (show wc.there w.heap.size (tt*25) Y.arr.size from by rw [ZY.out]; exact (gp_range FD.out.hG FD.out.ok (by rw [FD.out.ok.r3]; exact hto)).2)
   have F4:=Lib.hid (f.setR hto Y8.out)
   obtain ⟨G,hG⟩:∃ G,g.setR tt Y=G:=⟨_,rfl⟩
   rw [hG] at F4 HE
   have ZG:=Lib.hid (Gp.size F4.out.ok)
   clear f hc hG F1
   go_wp2_with (first | ((with_reducible refine ld_row1 rfl 56 _ rfl ?_); refine ⟨V,_,Y.arr,_,rfl,HC.out,rp_row.1,rfl,by rw [rp_row.2.1,ZY.out],?_⟩) | ((with_reducible refine st_mid1 rfl 56 _ _ rfl ?_); refine ⟨w.heap.size,tt*25,Y.arr,rfl,rfl,TH.out,by rw [rp_row.2.1,ZY.out],Rp.one _,?_⟩) | ((with_reducible refine ld_row1 rfl 60 _ rfl ?_); refine ⟨w.heap.size,_,G.arr,_,rfl,F4.out.hG,gp_row.1,rfl,by rw [gp_row.2,ZG.out],?_⟩) | ((with_reducible refine st_row1 rfl 60 _ _ rfl ?_); refine ⟨w.heap.size+1+1,_,G.arr,_,rfl,rfl,F4.out.hZ,by rw [gp_row.2,ZG.out],by rw [ZG.out]; rfl,Gp.one _,?_⟩))
   refine bodyPost_ret (v:=.tuple #[.agg G.arr,.bool X]) (results_row_tmp Tryz.results80 _ _ (w.heap.size+1+1) 60 G.arr (0,0) _ _ rfl rfl (setRow_heap _ _ _ _ _ _ F4.out.hZ) gp_row.1 rfl (by rw [gp_row.2,ZG.out])) rfl ?_
   exact ⟨by rw [HE.out.1,HE.out.2],F4.out.done _⟩
section
variable {P:Program} {ops:Array Oper} {rest:List Oper} {op:Oper} {a:Act} {w:World} {Q:Exit→Act→World→Prop}
theorem bld1 (hgd:op.guard=none) (t:TypeId) (parts:Array (Nat × Operand)) (ho:op.op=.build t parts)
  (h:∃ (l:List (Nat × Value)) (cells:Array Value),parts.toList.map (fun p=>(p.1,a.eval p.2))=l∧P.built t l=some cells∧wpList P ops Q rest (a.put op.dst (.agg cells)) w):wpList P ops Q (op :: rest) a w:=by
 obtain ⟨l,cells,h1,h2,h3⟩:=h
 refine wpList_plain hgd fun _ hK=>?_
 have hb:P.built t (parts.map fun (i,x)=>(i,a.eval x)).toList=some cells:=by rw [Array.toList_map,← h2,← h1]
 unfold Oper.wp execOp
 simp only [ho,Sem.run_bind,run_build w t _ _ hb,Result.andThen_ok]
 exact hK _ _ h3
theorem bsl1 (hgd:op.guard=none) (t:TypeId) (len:Nat) (parts:Array (Nat × Operand)) (ho:op.op=.buildSlice t len parts)
  (h:∃ (e:TypeId) (l:List (Nat × Value)) (cells:Array Value) (ie:TypeInfo) (z:Value),parts.toList.map (fun p=>(p.1,a.eval p.2))=l∧P.underlying t=some (.slice e)∧P.info? e=some ie∧ie.zero=some z∧¬ len*ie.size > 2 ^ 24∧¬ len*ie.size=0 ∧
   Instr.fill (fun i=>some (i*ie.size,ie.size)) ((Array.range (len*ie.size)).map (z.cells[· % z.cells.size]!)) l=some cells ∧
   wpList P ops Q rest (a.put op.dst (.slice (some ⟨w.heap.size,0,none⟩) len len)) (w.alloc (.cells cells e))):wpList P ops Q (op :: rest) a w:=by
 obtain ⟨e,l,cells,ie,z,h1,h2,h3,h4,h5,h6,h7,h8⟩:=h
 refine wpList_buildSlice hgd t e len parts ho cells ie z h2 h3 h4 h5 h6 ?_ h8
 rw [Array.toList_map,← h7,← h1]
end
theorem built_rp (f:Int) (cs:List Cel) (h:cs.length=8):Tryz.prog.built 56 [(0,.int .i64 f),(1,.agg (flat cs).toArray)]=some (Rp.mk f cs).arr:=by
 obtain ⟨f',d0,d1,d2,d3,d4,d5,d6,d7,e⟩:=rp_lit (Y:=⟨f,cs⟩) h
 cases e
 kernel_rfl
theorem filled_rp (ie:TypeInfo) (z:Value) (hie:Tryz.prog.info? 56=some ie) (hz:ie.zero=some z) (r:Rp) (h:r.cells.length=8):Instr.fill (fun i=>some (i*ie.size,ie.size)) ((Array.range (1*ie.size)).map (z.cells[· % z.cells.size]!)) [(0,.agg r.arr)]=some r.arr:=by
 obtain ⟨f,d0,d1,d2,d3,d4,d5,d6,d7,rfl⟩:=rp_lit h
 have:∀ x:TypeInfo,Tryz.prog.info? 56=some x→∀ z,x.zero=some z→Instr.fill (fun i=>some (i*x.size,x.size)) ((Array.range (1*x.size)).map (z.cells[· % z.cells.size]!)) [(0,.agg (Rp.mk f [d0,d1,d2,d3,d4,d5,d6,d7]).arr)]=some (Rp.mk f [d0,d1,d2,d3,d4,d5,d6,d7]).arr:=by
  have key:(Tryz.prog.info? 56).bind (fun x=>x.zero.bind (fun z=>Instr.fill (fun i=>some (i*x.size,x.size)) ((Array.range (1*x.size)).map (z.cells[· % z.cells.size]!)) [(0,.agg (Rp.mk f [d0,d1,d2,d3,d4,d5,d6,d7]).arr)]))=some (Rp.mk f [d0,d1,d2,d3,d4,d5,d6,d7]).arr:=by kernel_rfl
  intro x hx z hz
  rw [hx] at key
  simpa [hz] using key
 exact this ie hie z hz
theorem rp_zero_info:∃ ie z,Tryz.prog.info? 56=some ie∧ie.zero=some z∧ie.size=25∧ie.bytes=264∧z.cells.size=25:=by
 have key:(Tryz.prog.info? 56).bind (fun ie=>ie.zero.map (fun z=>(ie.size,ie.bytes,z.cells.size)))=some (25,264,25):=by kernel_rfl
 cases hi:Tryz.prog.info? 56 with
 | none=>rw [hi] at key; cases key
 | some ie =>
  rw [hi] at key
  cases hz:ie.zero with
  | none=>simp [hz] at key
  | some z=>simp [hz] at key; exact ⟨ie,z,rfl,hz,key.1,key.2.1,key.2.2⟩
def OwnR (B:Nat) (w:World) (v:Value) (l:List Rp):Prop:=w.ownsRow B 56 25 v l.length (flatR l)
theorem OwnR.below {B:Nat} {w w':World} {v:Value} {l:List Rp} (h:OwnR B w v l) (hb:Below w.heap.size w w'):OwnR B w' v l:=by
 obtain ⟨h1,h2⟩:=h
 refine ⟨h1,?_⟩
 rcases h2 with h2 | ⟨g,cap,cur,e,hg,hh,ht⟩
 ·exact .inl h2
 ·exact .inr ⟨g,cap,cur,e,hg,(hb.block g (Array.getElem?_eq_some_iff.1 hh).1).trans hh,ht⟩
theorem OwnR.blk {B:Nat} {w:World} {v:Value} {l:List Rp} (h:OwnR B w v l):∀ k,v.ownBlock=some k→B≤k:=by
 obtain ⟨-,h2⟩:=h
 intro k hk
 rcases h2 with ⟨rfl,-⟩ | ⟨g,cap,cur,rfl,hg,-⟩
 ·cases hk
 ·simp [Value.ownBlock] at hk; omega
theorem OwnR.rps {B:Nat} {w:World} {v:Value} {l:List Rp} (h:OwnR B w v l) (h8:∀ r∈l,r.cells.length=8):∃ a c,v=.slice a l.length c∧RpsAt w a l:=by
 obtain ⟨h1,h2⟩:=h
 rcases h2 with ⟨rfl,hn⟩ | ⟨g,cap,cur,rfl,hg,hh,hc,hm,hs,ht⟩
 ·obtain rfl:=List.length_eq_zero_iff.1 hn
  exact ⟨none,0,rfl,fun i hi=>absurd hi (by simp)⟩
 ·refine ⟨some ⟨g,0,none⟩,cap,rfl,fun i hi=>⟨h8 _ (List.getElem_mem hi),g,0,rfl,(Array.getElem?_eq_some_iff.1 hh).1,fun j u hj=>?_⟩⟩
  have hz:=Rp.size (h8 _ (List.getElem_mem hi))
  have hj25:j<25:=by
   have:=(List.getElem?_eq_some_iff.1 hj).1
   simp at this; omega
  have hat:=flatR_at l h8 i hi j hj25
  rw [← ht,List.getElem?_take_of_lt (by omega)] at hat
  have:w.cell? ⟨g,0+i*25+j,none⟩=cur[i*25+j]?:=by
   rw [cell_of_row w g (0+i*25+j) cur 56 (0,0) hh]
   congr 1; omega
  rw [this]
  have e2:cur.toList[i*25+j]?=cur[i*25+j]?:=by simp
  rw [← e2,hat,← hj]; simp
theorem flatR_snoc (l:List Rp) (r:Rp):flatR (l ++ [r])=flatR l ++ r.arr.toList:=by simp [flatR]
theorem row_new (w:World) (cs:Array Value) (T:TypeId):∀ j u,cs.toList[j]?=some u→(w.alloc (.cells cs T)).cell? ((⟨w.heap.size,0,none⟩:Addr).add j)=some u:=by
 intro j u h
 rw [Addr.add_mid,cell_of_row _ w.heap.size (0+j) cs T (0,0) (heap_alloc_new w _),Nat.zero_add]
 simpa using h
def Gp.frm (g:Gp) (epoch:Int):List Rp:=(g.mem epoch).map (fun x=>g.r.getD x.toNat Rp.zero)
def Gp.syncs (g:Gp) (epoch:Int) (i:Nat):Bool:=g.u.getD i false && decide (2≤(g.mem epoch).length) && decide ((g.r.getD i Rp.zero).floor<epoch)
def Gp.sync (g:Gp) (epoch:Int) (i:Nat):Gp:=if g.syncs epoch i then g.setR i ⟨epoch,mergeL (g.frm epoch)⟩ else g
theorem Gp.frm8 {g:Gp} (h:g.ok) (epoch:Int):∀ r∈g.frm epoch,r.cells.length=8:=by
 intro r hr
 obtain ⟨x,hx,rfl⟩:=List.mem_map.1 hr
 obtain ⟨i,rfl,hi,-⟩:=Gp.mem_lt hx
 exact Gp.getR h hi
theorem Gp.sync_ok {g:Gp} (h:g.ok) (epoch:Int) (i:Nat):(g.sync epoch i).ok:=by
 unfold Gp.sync; split
 ·exact h.setR i (mergeL_len _)
 ·exact h
set_option maxRecDepth 100000 in
set_option maxHeartbeats 2000000 in
theorem gsync_any (g:Gp) (epoch:Int) (i:Nat) (w:World) (hg:g.ok) (hi3:i<3) :
  Calls Tryz.prog 63 #[.agg g.arr,.int .i64 epoch,.int .i64 i] w fun e w'=>e=.returned (.tuple #[.agg (g.sync epoch i).arr,.bool (g.syncs epoch i)])∧Below w.heap.size w w':=by
 have OK:=Lib.hid hg
 have Z:=Lib.hid (Gp.size hg)
 have hti:(i:Int)<3:=by omega
 have htr:i<g.r.length:=by rw [hg.r3]; exact hi3
 have htu:i<g.u.length:=by rw [hg.u3]; exact hi3
 clear hg
 go_enter Tryz.func63,Tryz.ntmps63
 go_upto_region 1 with fail
 obtain ⟨w1,hw1⟩:∃ w1,w1=(w.alloc (.cells g.arr 60)).alloc (.cells Gp.zero.arr 60):=⟨_,rfl⟩
 rw [← gp_zero_arr] at hw1
 rw [← hw1]
 rw [gp_zero_arr] at hw1
 have F1:=Lib.hid (show GF w g w1 from hw1▸⟨(bal w _).alloc (by simp) _,OK.out,heap_alloc2_old w _ _,heap_alloc2_new w _ _⟩)
 clear hw1
 go_wp2_with ((with_reducible refine ld_row1 rfl 60 _ rfl ?_); refine ⟨w.heap.size,_,g.arr,_,rfl,F1.out.hG,gp_row.1,rfl,by rw [gp_row.2,Z.out],?_⟩)
 refine (members_any g _ _ OK.out).mono ?_
 rintro e w2 ⟨a2,c2,rfl,hown,b2⟩
 have F2:=Lib.hid (F1.out.over b2)
 have HI:=Lib.hid hown.hi
 obtain ⟨m,hm⟩:∃ m,(g.mem epoch).length=m:=⟨_,rfl⟩
 rw [hm]
 have HM:=Lib.hid hm
 have hm3:m≤3:=hm▸g.mem_len epoch 3
 clear hm b2 F1 hown
 obtain ⟨u0,-⟩:=gp_up F2.out.hG F2.out.ok htu
 obtain ⟨f0,-⟩:=gp_floor F2.out.hG F2.out.ok htr
 obtain ⟨U,hU⟩:∃ U,g.u[i]=U:=⟨_,rfl⟩
 obtain ⟨F,hF⟩:∃ F,g.r[i].floor=F:=⟨_,rfl⟩
 rw [hU] at u0
 rw [hF] at f0
 have HS:=Lib.hid (show g.syncs epoch i=(U && decide (2≤m) && decide (F<epoch)) from by unfold Gp.syncs; rw [← hU,← hF,← HM.out]; simp [htu,htr])
 clear hU hF htr htu
 cases U
 ·have HN:=Lib.hid (show g.sync epoch i=g∧g.syncs epoch i=false from by unfold Gp.sync; rw [HS.out]; exact ⟨rfl,rfl⟩)
  clear f0
  go_wp2_with (first | ((with_reducible refine ld_row1 rfl 60 _ rfl ?_); refine ⟨w.heap.size,_,g.arr,_,rfl,F2.out.hG,gp_row.1,rfl,by rw [gp_row.2,Z.out],?_⟩) | ((with_reducible refine st_row1 rfl 60 _ _ rfl ?_); refine ⟨w.heap.size+1,_,g.arr,_,rfl,rfl,F2.out.hZ,by rw [gp_row.2,Z.out],by rw [Z.out]; rfl,Gp.one _,?_⟩))
  refine bodyPost_ret (v:=.tuple #[.agg g.arr,.bool false]) (results_row_tmp Tryz.results63 _ _ (w.heap.size+1) 60 g.arr (0,0) _ _ rfl rfl (setRow_heap _ _ _ _ _ _ F2.out.hZ) gp_row.1 rfl (by rw [gp_row.2,Z.out])) rfl ?_
  exact ⟨by rw [HN.out.1,HN.out.2],F2.out.done _⟩
 ·by_cases hm2:m<2
  ·have HN:=Lib.hid (show g.sync epoch i=g∧g.syncs epoch i=false from by unfold Gp.sync; rw [HS.out,show decide (2≤m)=false from by simp; omega]; exact ⟨rfl,rfl⟩)
   clear f0
   go_wp2_with (first | ((with_reducible refine ld_row1 rfl 60 _ rfl ?_); refine ⟨w.heap.size,_,g.arr,_,rfl,F2.out.hG,gp_row.1,rfl,by rw [gp_row.2,Z.out],?_⟩) | ((with_reducible refine st_row1 rfl 60 _ _ rfl ?_); refine ⟨w.heap.size+1,_,g.arr,_,rfl,rfl,F2.out.hZ,by rw [gp_row.2,Z.out],by rw [Z.out]; rfl,Gp.one _,?_⟩))
   refine bodyPost_ret (v:=.tuple #[.agg g.arr,.bool false]) (results_row_tmp Tryz.results63 _ _ (w.heap.size+1) 60 g.arr (0,0) _ _ rfl rfl (setRow_heap _ _ _ _ _ _ F2.out.hZ) gp_row.1 rfl (by rw [gp_row.2,Z.out])) rfl ?_
   exact ⟨by rw [HN.out.1,HN.out.2],F2.out.done _⟩
  ·by_cases hfe:epoch≤F
   ·have HN:=Lib.hid (show g.sync epoch i=g∧g.syncs epoch i=false from by unfold Gp.sync; rw [HS.out,show decide (F<epoch)=false from by simp; omega]; simp)
    go_wp2_with (first | ((with_reducible refine ld_row1 rfl 60 _ rfl ?_); refine ⟨w.heap.size,_,g.arr,_,rfl,F2.out.hG,gp_row.1,rfl,by rw [gp_row.2,Z.out],?_⟩) | ((with_reducible refine st_row1 rfl 60 _ _ rfl ?_); refine ⟨w.heap.size+1,_,g.arr,_,rfl,rfl,F2.out.hZ,by rw [gp_row.2,Z.out],by rw [Z.out]; rfl,Gp.one _,?_⟩))
    refine bodyPost_ret (v:=.tuple #[.agg g.arr,.bool false]) (results_row_tmp Tryz.results63 _ _ (w.heap.size+1) 60 g.arr (0,0) _ _ rfl rfl (setRow_heap _ _ _ _ _ _ F2.out.hZ) gp_row.1 rfl (by rw [gp_row.2,Z.out])) rfl ?_
    exact ⟨by rw [HN.out.1,HN.out.2],F2.out.done _⟩
   ·have HN:=Lib.hid (show g.sync epoch i=g.setR i ⟨epoch,mergeL (g.frm epoch)⟩∧g.syncs epoch i=true from by
     have:g.syncs epoch i=true:=by rw [HS.out]; simp; omega
     exact ⟨if_pos this,this⟩)
    have hd2:decide ((m:Int)<2)=false:=by simp; omega
    have hdf:decide (epoch≤F)=false:=by simp; omega
    obtain ⟨L,hL⟩:∃ L,g.frm epoch=L:=⟨_,rfl⟩
    have L8:=Lib.hid (show ∀ r∈L,r.cells.length=8 from hL▸Gp.frm8 OK.out epoch)
    have LM:=Lib.hid (show L.length=m from by rw [← hL,← HM.out]; simp [Gp.frm])
    have LAT:=Lib.hid (show ∀ j (h:j<(g.mem epoch).length),∃ i':Nat,i'<3∧(g.mem epoch)[j]=(i':Int)∧L[j]?=some (g.r.getD i' Rp.zero) from fun j h=>by
     obtain ⟨i',e,h3,-⟩:=Gp.mem_lt (List.getElem_mem h)
     refine ⟨i',h3,e,?_⟩
     rw [← hL]
     unfold Gp.frm
     rw [List.getElem?_map,List.getElem?_eq_getElem h,e]
     rfl)
    rw [hL] at HN
    have HL:=Lib.hid hL
    clear hL
    obtain ⟨ie,z,hie,hz,hsz,hby,hzs⟩:=rp_zero_info
    have I1:=Lib.hid hie
    have I2:=Lib.hid hz
    have I3:=Lib.hid hsz
    have I4:=Lib.hid hby
    have I5:=Lib.hid hzs
    clear hie hz hsz hby hzs
    go_wp2
    clear f0 u0
    go_loopw [9,11,37] (fun v _ k wr=>∃ j:Nat,j≤m∧k=.int .i64 j∧OwnR w2.heap.size wr v (L.take j)∧Below w2.heap.size w2 wr) (fun _ _ k _=>m - (intOf k).toNat)
    case atStart=>exact ⟨0,by omega,rfl,⟨rfl,.inl ⟨rfl,rfl⟩⟩,Below.refl _ _⟩
    case round =>
     obtain ⟨j,hj,rfl,hO,hB⟩:=hrel
     have hlen:(L.take j).length=j:=by rw [List.length_take,LM.out]; omega
     have GFR:=Lib.hid (F2.out.over hB)
     have HB:=Lib.hid hB
     have HO:=Lib.hid hO
     obtain ⟨av,cv,rfl,hrps⟩:=hO.rps (fun r hr=>L8.out r (List.mem_of_mem_take hr))
     rw [hlen] at HO ⊢
     have HRPS:=Lib.hid hrps
     have HLEN:=Lib.hid hlen
     have BLK:=Lib.hid (HO.out.blk)
     clear hO hB hrps hlen
     by_cases hjm:j<m
     ·obtain ⟨i',h3,hx,hLj⟩:=LAT.out j (by rw [HM.out]; exact hjm)
      obtain ⟨bb,oo,rfl,-,hbb,hcell⟩:=HI.out j (by rw [HM.out]; exact hjm)
      rw [hx] at hcell
      have c0:=(HB.out.cell (p:=⟨bb,oo+j,none⟩) hbb).trans hcell
      have h3i:(i':Int)<3:=by omega
      have hkr:i'<g.r.length:=by rw [OK.out.r3]; exact h3
      obtain ⟨R,hR⟩:∃ R,g.r[i']=R:=⟨_,rfl⟩
      have RG:=Lib.hid (show wr.rangeAt w.heap.size (i'*25) R.arr.toList from hR▸(gp_range GFR.out.hG GFR.out.ok hkr).1)
      have R8:=Lib.hid (show R.cells.length=8 from hR▸OK.out.c8 _ (List.getElem_mem hkr))
      have ZR:=Lib.hid (Rp.size R8.out)
      have HT:=Lib.hid (show L.take (j+1)=L.take j ++ [R] from by rw [List.take_add_one,hLj,← hR]; simp [hkr])
      have OW:=Lib.hid (fun o=>show (wr.alloc o).ownsRow w2.heap.size 56 25 (.slice av j cv) j (flatR (L.take j)) from by
       have:=HO.out.below (bal wr o)
       unfold OwnR at this
       rwa [HLEN.out] at this)
      clear hR hkr hLj hx hcell
      go_wp2_with (first | ((with_reducible refine ld_mid1 rfl 56 _ rfl ?_); refine ⟨w.heap.size,i'*25,R.arr,_,rfl,RG.out,rp_row.1,rfl,by rw [rp_row.2.1,ZR.out],?_⟩) | ((with_reducible refine bsl1 rfl 169 _ _ rfl ?_); refine ⟨56,[(0,.agg R.arr)],R.arr,ie,z,rfl,Tryz.underlying169,I1.out,I2.out,by rw [I3.out]; decide,by rw [I3.out]; decide,filled_rp ie z I1.out I2.out R R8.out,?_⟩) | (at_builtin; refine wpList_append_own _ rfl _ _ 169 rfl w2.heap.size 56 ie z 25 264 Tryz.underlying169 I1.out I2.out I3.out I4.out I5.out (by decide) _ _ _ rfl (OW.out _) ⟨wr.heap.size,0,none⟩ 1 1 R.arr.toList rfl (by simp [ZR.out]) (row_new wr R.arr _) (fun u hu=>(Array.all_eq_true_iff_forall_mem.1 R.one) u (by simpa using hu)) (by unfold maxLen; omega) (by omega) (Nat.le_trans HB.out.size (bal wr _).size) ?_))
      intro v' w7 hown1 hg1 _
      have HN7:=Lib.hid (show OwnR w2.heap.size w7 v' (L.take (j+1)) from by rw [HT.out]; simpa [OwnR,HLEN.out,flatR_snoc] using hown1)
      have HZ7:=Lib.hid ((HB.out.trans ((bal wr _).mono HB.out.size)).grown hg1 (Nat.le_trans HB.out.size (bal wr _).size) (fun m hm=>by have:=BLK.out m hm; omega))
      clear hown1 hg1
      go_wp2
      go_roundw
      case rel=>exact ⟨j+1,by omega,by go_num,HN7.out,HZ7.out⟩
      case measure=>simp [intOf]; omega
     ·obtain rfl:j=m:=by omega
      have MG:=Lib.hid (show RpsAt wr av L from by have:=HRPS.out; rwa [List.take_of_length_le (by rw [LM.out]; exact Nat.le_refl _)] at this)
      have ME:=Lib.hid (fun (w':World) (hb:Below wr.heap.size wr w')=>merge_any L av cv w' (by rw [LM.out]; unfold maxLen; omega) (fun k hk=>by
       obtain ⟨e1,b,o,e2,e3,e4⟩:=MG.out k hk
       exact ⟨e1,b,o,e2,Nat.lt_of_lt_of_le e3 hb.size,fun q v hv=>(hb.cell (p:=⟨b,_,none⟩) e3).trans (e4 q v hv)⟩))
      rw [LM.out] at ME
      go_wp2_with fail
      refine (ME.out _ (Below.refl _ _)).mono ?_
      rintro e w5 ⟨rfl,b5⟩
      have F5:=Lib.hid (GFR.out.over b5)
      obtain ⟨M,hM⟩:∃ M,mergeL L=M:=⟨_,rfl⟩
      have M8:=Lib.hid (show M.length=8 from hM▸mergeL_len L)
      rw [hM] at HN ⊢
      obtain ⟨Y,hY⟩:∃ Y,Rp.mk epoch M=Y:=⟨_,rfl⟩
      have BR:=Lib.hid (show Tryz.prog.built 56 [(0,.int .i64 epoch),(1,.agg (flat M).toArray)]=some Y.arr from hY▸built_rp epoch M M8.out)
      have Y8:=Lib.hid (show Y.cells.length=8 from hY▸M8.out)
      rw [hY] at HN
      have ZY:=Lib.hid (Rp.size Y8.out)
      have TH:=Lib.hid (show w5.there w.heap.size (i*25) Y.arr.size from by rw [ZY.out]; exact (gp_range F5.out.hG F5.out.ok (by rw [F5.out.ok.r3]; exact hi3)).2)
      have F6:=Lib.hid (F5.out.setR hi3 Y8.out)
      obtain ⟨G,hG⟩:∃ G,g.setR i Y=G:=⟨_,rfl⟩
      rw [hG] at F6 HN
      have ZG:=Lib.hid (Gp.size F6.out.ok)
      clear hM hY hG b5
      go_wp2_with (first | ((with_reducible refine bld1 rfl 56 _ rfl ?_); refine ⟨[(0,.int .i64 epoch),(1,.agg (flat M).toArray)],Y.arr,rfl,BR.out,?_⟩) | ((with_reducible refine st_mid1 rfl 56 _ _ rfl ?_); refine ⟨w.heap.size,i*25,Y.arr,rfl,rfl,TH.out,by rw [rp_row.2.1,ZY.out],Rp.one _,?_⟩) | ((with_reducible refine ld_row1 rfl 60 _ rfl ?_); refine ⟨w.heap.size,_,G.arr,_,rfl,F6.out.hG,gp_row.1,rfl,by rw [gp_row.2,ZG.out],?_⟩) | ((with_reducible refine st_row1 rfl 60 _ _ rfl ?_); refine ⟨w.heap.size+1,_,G.arr,_,rfl,rfl,F6.out.hZ,by rw [gp_row.2,ZG.out],by rw [ZG.out]; rfl,Gp.one _,?_⟩))
      refine bodyPost_ret (v:=.tuple #[.agg G.arr,.bool true]) (results_row_tmp Tryz.results63 _ _ (w.heap.size+1) 60 G.arr (0,0) _ _ rfl rfl (setRow_heap _ _ _ _ _ _ F6.out.hZ) gp_row.1 rfl (by rw [gp_row.2,ZG.out])) rfl ?_
      exact ⟨by rw [HN.out.1,HN.out.2],F6.out.done _⟩
end Go.Proofs.YtajegiifabfcjaaGreatDoor
