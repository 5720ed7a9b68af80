/-
  Merge, Gp, GNew
-/
import Derived.Test.YtajegiifabfcjaaGreatDoorQ04
import Derived.Deep.MidRow
namespace Go.Proofs.YtajegiifabfcjaaGreatDoor
open Go.RowKit Go.Sort
def mstep (best cs:List Cel):Nat→List Cel
 | 0=>best
 | n+1=>if newerB (cs.getD n Cel.zero) ((mstep best cs n).getD n Cel.zero) then (mstep best cs n).set n (cs.getD n Cel.zero) else mstep best cs n
theorem mstep_len (best cs:List Cel):∀ n,(mstep best cs n).length=best.length
 | 0=>rfl
 | n+1=>by
  unfold mstep
  split
  ·simp [mstep_len best cs n]
  ·exact mstep_len best cs n
theorem mstep_get (best cs:List Cel) (i:Nat) (hi:i<best.length):∀ n,(mstep best cs n).getD i Cel.zero=if i<n∧newerB (cs.getD i Cel.zero) (best.getD i Cel.zero)=true then cs.getD i Cel.zero else best.getD i Cel.zero
 | 0=>by simp [mstep]
 | n+1=>by
  have ih:=mstep_get best cs i hi n
  have hl:=mstep_len best cs n
  unfold mstep
  by_cases hin:i=n
  ·subst hin
   rw [if_neg (by omega)] at ih
   rw [ih]
   by_cases hn:newerB (cs.getD i Cel.zero) (best.getD i Cel.zero)=true
   ·rw [if_pos hn,if_pos ⟨by omega,hn⟩]
    simp [List.getD_eq_getElem?_getD,hl,hi]
   ·rw [if_neg hn,if_neg (fun h=>hn h.2),ih]
  ·have e:∀ c,((mstep best cs n).set n c).getD i Cel.zero=(mstep best cs n).getD i Cel.zero:=fun c=>by
    simp [List.getD_eq_getElem?_getD,List.getElem?_set_ne (Ne.symm hin)]
   have e2:(i<n+1∧newerB (cs.getD i Cel.zero) (best.getD i Cel.zero)=true) ↔ (i<n∧newerB (cs.getD i Cel.zero) (best.getD i Cel.zero)=true):=by
    constructor <;> rintro ⟨h1,h2⟩ <;> exact ⟨by omega,h2⟩
   split
   ·rw [e,ih]; simp only [e2]
   ·rw [ih]; simp only [e2]
def zeros8:List Cel:=List.replicate 8 Cel.zero
def mergeL (l:List Rp):List Cel:=l.foldl (fun b r=>mstep b r.cells 8) zeros8
theorem mergeL_len (l:List Rp):(mergeL l).length=8:=by
 have:∀ (l:List Rp) (b:List Cel),b.length=8→(l.foldl (fun b r=>mstep b r.cells 8) b).length=8:=by
  intro l
  induction l with
  | nil=>intro b h; exact h
  | cons r l ih=>intro b h; exact ih _ (by rw [mstep_len]; exact h)
 exact this l _ (by simp [zeros8])
theorem mergeL_take {l:List Rp} {k:Nat} (h:k<l.length):mergeL (l.take (k+1))=mstep (mergeL (l.take k)) l[k].cells 8:=by
 unfold mergeL
 rw [List.take_add_one,List.getElem?_eq_getElem h,List.foldl_append]
 rfl
def bestL (i:Nat) (l:List Rp):Cel:=l.foldl (fun b r=>if newerB (r.get i) b then r.get i else b) Cel.zero
theorem mergeL_get (l:List Rp) (i:Nat) (hi:i<8):(mergeL l).getD i Cel.zero=bestL i l:=by
 have:∀ (l:List Rp) (b:List Cel) (c:Cel),b.length=8→b.getD i Cel.zero=c→(l.foldl (fun b r=>mstep b r.cells 8) b).getD i Cel.zero=l.foldl (fun b r=>if newerB (r.get i) b then r.get i else b) c:=by
  intro l
  induction l with
  | nil=>intro b c _ h; exact h
  | cons r l ih =>
   intro b c hb h
   refine ih _ _ (by rw [mstep_len]; exact hb) ?_
   rw [mstep_get b r.cells i (by omega) 8,h]
   unfold Rp.get
   simp [hi]
 exact this l _ _ (by simp [zeros8]) (by unfold zeros8; rw [List.getD_eq_getElem?_getD,List.getElem?_replicate]; split <;> rfl)
theorem bestL_take {l:List Rp} {i k:Nat} (h:k<l.length):bestL i (l.take (k+1))=if newerB (l[k].get i) (bestL i (l.take k)) then l[k].get i else bestL i (l.take k):=by
 unfold bestL
 rw [List.take_add_one,List.getElem?_eq_getElem h,List.foldl_append]
 rfl
theorem zeros8_arr:(flat zeros8).toArray=#[.int .i64 0,.int .i64 0,.string ⟨#[]⟩,.int .i64 0,.int .i64 0,.string ⟨#[]⟩,.int .i64 0,.int .i64 0,.string ⟨#[]⟩,.int .i64 0,.int .i64 0,.string ⟨#[]⟩,.int .i64 0,.int .i64 0,.string ⟨#[]⟩,.int .i64 0,.int .i64 0,.string ⟨#[]⟩,.int .i64 0,.int .i64 0,.string ⟨#[]⟩,.int .i64 0,.int .i64 0,.string ⟨#[]⟩]:=rfl
theorem flat_cells {w:World} {b j:Nat} {m:List Cel} {T:TypeId} (h:w.heap[b]?=some (.cells (flat m).toArray T (0,0))) (hj:j<m.length) :
  (w.cell? ⟨b,j*3,none⟩=some (.int .i64 m[j].e)∧w.cell? ⟨b,j*3+1,none⟩=some (.int .i64 m[j].n)∧w.cell? ⟨b,j*3+2,none⟩=some (.string m[j].d)) ∧
  w.frozen? ⟨b,j*3,none⟩=false∧w.frozen? ⟨b,j*3+1,none⟩=false∧w.frozen? ⟨b,j*3+2,none⟩=false:=by
 obtain ⟨h1,h2,h3⟩:=flat_at m j hj
 simp [World.cell?,World.frozen?,h,h1,h2,h3]
theorem flat_set_arr (m:List Cel) (j:Nat) (c:Cel) (h:j<m.length) :
  (((flat m).toArray.setIfInBounds (j*3) (.int .i64 c.e)).setIfInBounds (j*3+1) (.int .i64 c.n)).setIfInBounds (j*3+2) (.string c.d)=(flat (m.set j c)).toArray:=by
 apply Array.toList_inj.1
 simp only [Array.toList_setIfInBounds]
 exact flat_set m j c h
theorem flat_size {m:List Cel} (h:m.length=8):(flat m).toArray.size=24:=by simp [flat_length,h]
theorem index_cells (l:List Cel) (j:Nat) (hl:l.length=8) (hj:j<8) (c:Cel) (hc:l[j]'(by omega)=c) (w:World) :
  (Instr.index 54 (.agg (flat l).toArray) (.int .i64 j)).run Tryz.prog w=.ok c.v w:=by
 have hs:(sizeOf 30).run Tryz.prog w=.ok 3 w:=by
  have hn:=cell_row.2
  cases hq:Tryz.prog.info? 30 with
  | none=>simp [hq] at hn
  | some i=>simp [hq] at hn; simp [sizeOf,typeInfo,hq,hn]
 unfold Instr.index
 simp only [asIntOf,Sem.run_bind,Sem.run_pure,Result.andThen_ok,run_underlying cells_row.1]
 rw [if_pos (by omega)]
 simp only [Sem.run_bind,hs,Result.andThen_ok,Int.toNat_natCast]
 rw [part_agg w cell_row.1 rfl cell_row.2,flat_part (by omega),hc]
theorem wpList_load_midA {P:Program} {ops:Array Oper} {rest:List Oper} {op:Oper} {a:Act} {w:World} {Q:Exit→Act→World→Prop} (hgd:op.guard=none) (ty:TypeId) (x:Operand) (ho:op.op=.load ty x)
  (b o:Nat) (hx:a.eval x=.pointer (some ⟨b,o,none⟩)) (cs:Array Value) (d:TypeDesc) (hc:w.rangeAt b o cs.toList)
  (hu:P.underlying ty=some d) (hd:d.isRow=true) (hi:(P.info? ty).map (·.size)=some cs.size)
  (h:wpList P ops Q rest (a.put op.dst (.agg cs)) w):wpList P ops Q (op :: rest) a w :=
 wpList_load_mid hgd ty x ho b o hx cs.toList d hc hu hd hi (by simpa using h)
theorem rp_cells_range {w:World} {b:Nat} {r:Rp} {T:TypeId} (h:w.heap[b]?=some (.cells r.arr T (0,0))):w.rangeAt b 1 (flat r.cells).toArray.toList:=fun j v hv=>by
 rw [cell_of_row w b (1+j) r.arr T (0,0) h]
 unfold Rp.arr
 rw [Nat.add_comm]
 simpa using hv
theorem newer_x {a b:Cel} {X:Bool} (h:newerB a b=X) (w:World):Calls Tryz.prog 19 #[a.v,b.v] w fun e w'=>e=.returned (.bool X)∧Below w.heap.size w w':=by
 have:=newer_any a b w
 rwa [h] at this
structure MG (w:World) (m:List Cel) (wx:World):Prop where
 below:Below w.heap.size w wx
 len:m.length=8
 hO:wx.heap[w.heap.size]?=some (.cells (flat zeros8).toArray 54 (0,0))
 hM:wx.heap[w.heap.size+1]?=some (.cells (flat m).toArray 54 (0,0))
theorem MG.big {w wx:World} {m:List Cel} (h:MG w m wx):w.heap.size+1<wx.heap.size:=(Array.getElem?_eq_some_iff.1 h.hM).1
theorem MG.over {w wx w':World} {m:List Cel} (h:MG w m wx) (b:Below wx.heap.size wx w'):MG w m w' :=
 ⟨h.below.trans (b.mono h.below.size),h.len,(b.block _ (Array.getElem?_eq_some_iff.1 h.hO).1).trans h.hO,(b.block _ h.big).trans h.hM⟩
theorem MG.put {w wx:World} {m:List Cel} (h:MG w m wx) (j:Nat) (c:Cel) (hj:j<m.length) :
  MG w (m.set j c) (((wx.setCell ⟨w.heap.size+1,j*3,none⟩ (.int .i64 c.e)).setCell ⟨w.heap.size+1,j*3+1,none⟩ (.int .i64 c.n)).setCell ⟨w.heap.size+1,j*3+2,none⟩ (.string c.d)):=by
 have kp:Keeps (·=w.heap.size+1) wx (((wx.setCell ⟨w.heap.size+1,j*3,none⟩ (.int .i64 c.e)).setCell ⟨w.heap.size+1,j*3+1,none⟩ (.int .i64 c.n)).setCell ⟨w.heap.size+1,j*3+2,none⟩ (.string c.d)) :=
  Keeps.setCell (S:=(·=w.heap.size+1)) (Keeps.setCell (S:=(·=w.heap.size+1)) (Keeps.setCell (S:=(·=w.heap.size+1)) (Keeps.refl _ _) rfl _) rfl _) rfl _
 refine ⟨h.below.trans (kp.below h.below.size (fun k hk=>by omega)),by simp [h.len],(kp.block _ (by omega) (Array.getElem?_eq_some_iff.1 h.hO).1).trans h.hO,?_⟩
 rw [← flat_set_arr m j c hj]
 exact block_setCell (block_setCell (block_setCell h.hM _) _) _
set_option maxRecDepth 100000 in
set_option maxHeartbeats 4000000 in
theorem merge_any (l:List Rp) (a:Option Addr) (cap:Nat) (w:World) (hl:l.length≤maxLen) (hr:RpsAt w a l) :
  Calls Tryz.prog 102 #[.slice a l.length cap] w fun e w'=>e=.returned (.agg (flat (mergeL l)).toArray)∧Below w.heap.size w w':=by
 unfold maxLen at hl
 have HR:=Lib.hid hr
 clear hr
 go_enter Tryz.func102,Tryz.ntmps102
 go_upto_region 2 with fail
 obtain ⟨w1,hw1⟩:∃ w1,w1=(w.alloc (.cells (flat zeros8).toArray 54)).alloc (.cells (flat zeros8).toArray 54):=⟨_,rfl⟩
 rw [zeros8_arr] at hw1
 rw [← hw1]
 rw [← zeros8_arr] at hw1
 have HM1:=Lib.hid (show MG w zeros8 w1 from hw1▸⟨(bal w _).alloc (by simp) _,rfl,heap_alloc2_old w _ _,heap_alloc2_new w _ _⟩)
 clear hw1
 go_wp2
 go_loopw [10] (fun i wr=>∃ k:Nat,k≤l.length∧i=.int .i64 k∧MG w (mergeL (l.take k)) wr) (fun i _=>l.length - (intOf i).toNat)
 case atStart =>
  exact ⟨0,by omega,rfl,by simpa [mergeL] using HM1.out⟩
 case round =>
  obtain ⟨k,hk,rfl,mg⟩:=hrel
  have HMG:=Lib.hid mg
  clear mg HM1
  by_cases hlt:k<l.length
  ·obtain ⟨h8,bb,oo,rfl,hbs,hra⟩:=HR.out k hlt
   have HRA:=Lib.hid (show wr.rangeAt bb (oo+k*25) l[k].arr.toList from fun j v hv=>(HMG.out.below.cell (p:=⟨bb,_,none⟩) hbs).trans (hra j v hv))
   have HL8:=Lib.hid h8
   have hz:=Lib.hid (Rp.size h8)
   clear hra h8
   obtain ⟨R,hR⟩:∃ R,l[k]=R:=⟨_,rfl⟩
   have HMT:=Lib.hid (show mergeL (l.take (k+1))=mstep (mergeL (l.take k)) R.cells 8 from hR▸mergeL_take hlt)
   rw [hR] at HRA HL8 hz
   clear hR
   have hu:=HMG.out.big
   go_upto_region 5 with (first | (refine wpList_load_midA rfl 56 _ rfl bb (oo+k*25) rfl R.arr _ HRA.out rp_row.1 rfl (by rw [rp_row.2.1,hz.out]) ?_) | (refine wpList_store_row rfl 56 _ _ rfl wr.heap.size R.arr rfl rfl 56 Rp.zero.arr (heap_alloc_new wr _) (by rw [rp_row.2.1,hz.out]) (by rw [hz.out]; rfl) (Rp.one _) ?_))
   obtain ⟨w2,hw2⟩:∃ w2,w2=(wr.alloc (.cells Rp.zero.arr 56)).setRow wr.heap.size R.arr:=⟨_,rfl⟩
   rw [rp_zero_arr] at hw2
   rw [← hw2]
   have HM2:=Lib.hid (show MG w (mergeL (l.take k)) w2 from hw2▸HMG.out.over (bel_row wr _ _ _))
   have HN2:=Lib.hid (show w2.heap[wr.heap.size]?=some (.cells R.arr 56 (0,0)) from hw2▸setRow_heap _ _ _ _ _ _ (heap_alloc_new wr _))
   clear hw2 HMG
   have hz2:=Lib.hid (flat_size HL8.out)
   go_wp2_with (refine wpList_load_midA rfl 54 _ rfl wr.heap.size 1 rfl (flat R.cells).toArray _ (rp_cells_range HN2.out) cells_row.1 rfl (by rw [cells_row.2,hz2.out]) ?_)
   go_loopw [16] (fun i wz=>∃ j:Nat,j≤8∧i=.int .i64 j∧MG w (mstep (mergeL (l.take k)) R.cells j) wz) (fun i _=>8 - (intOf i).toNat)
   case atStart=>exact ⟨0,by omega,rfl,HM2.out⟩
   case round =>
    obtain ⟨j,hj,rfl,mg⟩:=hrel
    obtain ⟨m,hm⟩:∃ m,mstep (mergeL (l.take k)) R.cells j=m:=⟨_,rfl⟩
    rw [hm] at mg
    have HMG:=Lib.hid mg
    have HM:=Lib.hid hm
    clear mg HM2 hm
    by_cases hj8:j<8
    ·obtain ⟨c,hc⟩:∃ c,R.cells[j]'(by rw [HL8.out]; exact hj8)=c:=⟨_,rfl⟩
     have hidx:=index_cells R.cells j HL8.out hj8 c hc
     have hjm:j<m.length:=by rw [HMG.out.len]; exact hj8
     obtain ⟨b,hb⟩:∃ b,m[j]=b:=⟨_,rfl⟩
     have HC:=Lib.hid (show R.cells.getD j Cel.zero=c∧m.getD j Cel.zero=b from ⟨by rw [← hc]; simp [HL8.out,hj8],by rw [← hb]; simp [hjm]⟩)
     clear hc hb hjm
     have hk8:decide ((j:Int)<8)=true:=by simpa using (by omega:(j:Int)<8)
     go_upto_region 8 with fail
     obtain ⟨w3,hw3⟩:∃ w3,w3=wr.alloc (.cells #[.int .i64 c.e,.int .i64 c.n,.string c.d] 30):=⟨_,rfl⟩
     rw [← hw3]
     have HM3:=Lib.hid (show MG w m w3 from hw3▸HMG.out.over (bal wr _))
     have HX3:=Lib.hid (show w3.heap[wr.heap.size]?=some (.cells #[.int .i64 c.e,.int .i64 c.n,.string c.d] 30 (0,0)) from hw3▸heap_alloc_new wr _)
     clear hw3
     obtain ⟨c0,c1,c2⟩:=cell_box HX3.out
     have hjm:j<m.length:=by rw [HM3.out.len]; exact hj8
     obtain ⟨⟨b0,b1,b2⟩,-⟩:=flat_cells HM3.out.hM hjm
     have hb:m[j]=b:=by have:=HC.out.2; simpa [hjm] using this
     rw [hb] at b0 b1 b2
     obtain ⟨X,hX⟩:∃ X,newerB c b=X:=⟨_,rfl⟩
     have HXX:=Lib.hid hX
     have NW:=Lib.hid (fun (w:World)=>newer_x hX w)
     clear hb hX hjm hidx
     have hv1:wr.heap.size<w3.heap.size:=(Array.getElem?_eq_some_iff.1 HX3.out).1
     have hv2:w.heap.size+1<w3.heap.size:=HM3.out.big
     have hq:=bregrown (Below.refl w3.heap.size w3)
     go_cut [24] (fun v wx=>v=.bool X∧Below w3.heap.size w3 wx)
     case first =>
      refine wp_region_quiet_below (by kernel_rfl) (by kernel_rfl) ?_
      repeat (go_big_quiet_step (exact Calls.regrown_of (NW.out _)))
      refine wpQuiet_nil ?_
      rintro w' ⟨⟨dq,osq⟩,rfl⟩
      go_wp2_with fail
      go_meet
      exact ⟨rfl,below_regrown _ dq osq⟩
     case rest =>
      obtain ⟨rfl,b4⟩:=hcut
      have HM4:=Lib.hid (HM3.out.over b4)
      have HX4:=Lib.hid ((b4.block _ hv1).trans HX3.out)
      clear b4 hq c0 c1 c2 b0 b1 b2 hv1 hv2
      have HST:=Lib.hid (show mstep (mergeL (l.take k)) R.cells (j+1)=if X then m.set j c else m from by
       show (if newerB (R.cells.getD j Cel.zero) ((mstep (mergeL (l.take k)) R.cells j).getD j Cel.zero) then _ else _)=_
       rw [HM.out,HC.out.1,HC.out.2,HXX.out])
      cases X
      ·go_wp2
       exact ⟨⟨j+1,by omega,by simp,by rw [HST.out]; exact HM4.out⟩,by simp [intOf]; omega⟩
      ·obtain ⟨c0,c1,c2⟩:=cell_box HX4.out
       have hjm:j<m.length:=by rw [HM4.out.len]; exact hj8
       obtain ⟨⟨b0,b1,b2⟩,f0,f1,f2⟩:=flat_cells HM4.out.hM hjm
       have hb:m[j]=b:=by have:=HC.out.2; simpa [hjm] using this
       rw [hb] at b0 b1 b2
       have HP:=Lib.hid (HM4.out.put j c hjm)
       clear hb hjm
       go_wp2
       exact ⟨⟨j+1,by omega,by simp,by rw [HST.out]; exact HP.out⟩,by simp [intOf]; omega⟩
    ·obtain rfl:j=8:=by omega
     go_wp2
     exact ⟨⟨k+1,by omega,by simp,by rw [HMT.out,HM.out]; exact HMG.out⟩,by simp [intOf]; omega⟩
  ·obtain rfl:k=l.length:=by omega
   have HT:=Lib.hid (show mergeL (l.take l.length)=mergeL l from by rw [List.take_length])
   have hzm:=Lib.hid (flat_size (mergeL_len (l.take l.length)))
   go_wp2_with (first | (refine wpList_load_row rfl 54 _ rfl (w.heap.size+1) rfl 54 (flat (mergeL (l.take l.length))).toArray (0,0) _ HMG.out.hM cells_row.1 rfl (by rw [cells_row.2,hzm.out]) ?_) | (refine wpList_store_row rfl 54 _ _ rfl w.heap.size (flat (mergeL (l.take l.length))).toArray rfl rfl 54 (flat zeros8).toArray HMG.out.hO (by rw [cells_row.2,hzm.out]) (by rw [hzm.out]; rfl) (all_oneCell_toArray (flat_one _)) ?_))
   refine bodyPost_ret (v:=.agg (flat (mergeL l)).toArray) (by rw [← HT.out]; exact results_row1 Tryz.results102 _ _ w.heap.size 54 _ (0,0) _ rfl (setRow_heap _ _ _ _ _ _ HMG.out.hO) cells_row.1 rfl (by rw [cells_row.2,hzm.out])) rfl ?_
   exact ⟨rfl,HMG.out.below.trans (((Keeps.refl (·=w.heap.size) wr).setRow rfl _).below HMG.out.below.size (fun m hm=>by omega))⟩
def putL (l:List Value) (o:Nat):List Value→List Value
 | []=>l
 | v :: r=>putL (l.set o v) (o+1) r
theorem set_app_r {a b:List Value} {i:Nat} (h:a.length≤i) (v:Value):(a ++ b).set i v=a ++ b.set (i - a.length) v:=by
 rw [List.set_append,if_neg (by omega)]
theorem set_app_l {a b:List Value} {i:Nat} (h:i<a.length) (v:Value):(a ++ b).set i v=a.set i v ++ b:=by
 rw [List.set_append,if_pos h]
theorem putL_length:∀ (vs l:List Value) (o:Nat),(putL l o vs).length=l.length
 | [],_,_=>rfl
 | v :: r,l,o=>by unfold putL; rw [putL_length r]; simp
theorem putL_right:∀ (vs a b:List Value) (o:Nat),putL (a ++ b) (a.length+o) vs=a ++ putL b o vs
 | [],_,_,_=>rfl
 | v :: r,a,b,o=>by
  unfold putL
  rw [set_app_r (by omega),Nat.add_sub_cancel_left]
  exact putL_right r a (b.set o v) (o+1)
theorem putL_left:∀ (vs a b:List Value) (o:Nat),o+vs.length≤a.length→putL (a ++ b) o vs=putL a o vs ++ b
 | [],_,_,_,_=>rfl
 | v :: r,a,b,o,h=>by
  simp only [List.length_cons] at h
  unfold putL
  rw [set_app_l (by omega)]
  exact putL_left r (a.set o v) b (o+1) (by simp; omega)
theorem putL_full:∀ (vs p a:List Value),a.length=vs.length→putL (p ++ a) p.length vs=p ++ vs
 | [],p,a,h=>by obtain rfl:=List.length_eq_zero_iff.1 (h.trans rfl); rfl
 | v :: r,p,[],h=>by simp at h
 | v :: r,p,x :: a,h=>by
  unfold putL
  rw [set_app_r (by omega),Nat.sub_self,List.set_cons_zero]
  have:=putL_full r (p ++ [v]) a (by simpa using h)
  simpa using this
theorem putL_all {vs a:List Value} (h:a.length=vs.length):putL a 0 vs=vs:=by simpa using putL_full vs [] a h
theorem block_setCells {N:Nat} {T:TypeId}:∀ (vs:List Value) (o:Nat) (w:World) (cs:Array Value),w.heap[N]?=some (.cells cs T (0,0))→(w.setCells N o vs).heap[N]?=some (.cells (putL cs.toList o vs).toArray T (0,0))
 | [],_,_,_,h=>h
 | v :: r,o,w,cs,h=>by
  have:=block_setCells r (o+1) (w.setCell ⟨N,o,none⟩ v) _ (block_setCell h v)
  unfold World.setCells putL
  simpa using this
theorem Keeps.setCells {S:Nat→Prop} {N:Nat} (hN:S N):∀ (vs:List Value) (o:Nat) (a w:World),Keeps S a w→Keeps S a (w.setCells N o vs)
 | [],_,_,_,h=>h
 | v :: r,o,a,w,h=>by
  unfold World.setCells
  exact Keeps.setCells hN r (o+1) a _ (h.setCell hN v)
structure Gp where
 r:List Rp
 u:List Bool
structure Gp.ok (g:Gp):Prop where
 r3:g.r.length=3
 u3:g.u.length=3
 c8:∀ r∈g.r,r.cells.length=8
def flatR (l:List Rp):List Value:=l.flatMap (fun r=>r.arr.toList)
def Gp.arr (g:Gp):Array Value:=(flatR g.r ++ g.u.map Value.bool).toArray
theorem flatR_length:∀ (l:List Rp),(∀ r∈l,r.cells.length=8)→(flatR l).length=l.length*25
 | [],_=>rfl
 | r :: l,h=>by
  have ih:=flatR_length l (fun q hq=>h q (by simp [hq]))
  have hz:=Rp.size (h r (by simp))
  simp only [flatR,List.flatMap_cons,List.length_append,Array.length_toList,List.length_cons] at ih ⊢
  omega
theorem flatR_at:∀ (l:List Rp),(∀ r∈l,r.cells.length=8)→∀ (i:Nat) (h:i<l.length) (j:Nat),j<25→(flatR l)[i*25+j]?=l[i].arr[j]?
 | r :: l,h8,0,_,j,hj=>by
  have hz:=Rp.size (h8 r (by simp))
  simp only [flatR,List.flatMap_cons]
  rw [List.getElem?_append_left (by simp; omega)]
  simp
 | r :: l,h8,i+1,h,j,hj=>by
  have hz:=Rp.size (h8 r (by simp))
  have:=flatR_at l (fun q hq=>h8 q (by simp [hq])) i (by simpa using h) j hj
  simp only [flatR,List.flatMap_cons] at this ⊢
  rw [List.getElem?_append_right (by simp; omega)]
  simp only [Array.length_toList,hz]
  rw [show (i+1)*25+j - 25=i*25+j from by omega]
  simpa using this
theorem flatR_put:∀ (l:List Rp),(∀ r∈l,r.cells.length=8)→∀ (i:Nat) (h:i<l.length) (o:Nat) (vs:List Value) (r':Rp),o+vs.length≤25→putL l[i].arr.toList o vs=r'.arr.toList →
  putL (flatR l) (i*25+o) vs=flatR (l.set i r')
 | x :: l,h8,0,_,o,vs,r',ho,hp=>by
  have hz:=Rp.size (h8 x (by simp))
  simp only [flatR,List.flatMap_cons,List.set_cons_zero,Nat.zero_mul,Nat.zero_add]
  rw [putL_left _ _ _ _ (by simp; omega)]
  exact congrArg (· ++ _) hp
 | x :: l,h8,i+1,h,o,vs,r',ho,hp=>by
  have hz:=Rp.size (h8 x (by simp))
  have ih:=flatR_put l (fun q hq=>h8 q (by simp [hq])) i (by simpa using h) o vs r' ho hp
  simp only [flatR,List.flatMap_cons,List.set_cons_succ] at ih ⊢
  rw [show (i+1)*25+o=x.arr.toList.length+(i*25+o) from by simp; omega,putL_right,ih]
theorem flatR_one (l:List Rp):∀ v∈flatR l,v.oneCell'=true:=by
 intro v hv
 simp only [flatR,List.mem_flatMap] at hv
 obtain ⟨r,_,h⟩:=hv
 exact (Array.all_eq_true_iff_forall_mem.1 r.one) v (by simpa using h)
theorem Gp.one (g:Gp):g.arr.all (·.oneCell')=true:=by
 unfold Gp.arr
 apply all_oneCell_toArray
 intro v hv
 rcases List.mem_append.1 hv with h | h
 ·exact flatR_one _ v h
 ·simp only [List.mem_map] at h
  obtain ⟨b,_,rfl⟩:=h; rfl
theorem Gp.size {g:Gp} (h:g.ok):g.arr.size=78:=by
 unfold Gp.arr
 simp [flatR_length g.r h.c8,h.r3,h.u3]
theorem Gp.atR {g:Gp} (h:g.ok) {i:Nat} (hi:i<g.r.length) {j:Nat} (hj:j<25):g.arr[i*25+j]?=g.r[i].arr[j]?:=by
 unfold Gp.arr
 have hl:=flatR_length g.r h.c8
 rw [List.getElem?_toArray,List.getElem?_append_left (by have:=h.r3; omega)]
 exact flatR_at g.r h.c8 i hi j hj
theorem Gp.atU {g:Gp} (h:g.ok) {i:Nat} (hi:i<g.u.length):g.arr[75+i]?=some (.bool g.u[i]):=by
 unfold Gp.arr
 have hl:=flatR_length g.r h.c8
 have h3:=h.r3
 rw [List.getElem?_toArray,List.getElem?_append_right (by omega),show 75+i - (flatR g.r).length=i from by omega]
 simp [hi]
def Gp.setR (g:Gp) (i:Nat) (r:Rp):Gp:=⟨g.r.set i r,g.u⟩
def Gp.setU (g:Gp) (i:Nat) (b:Bool):Gp:=⟨g.r,g.u.set i b⟩
theorem Gp.ok.setR {g:Gp} (h:g.ok) (i:Nat) {r:Rp} (hr:r.cells.length=8):(g.setR i r).ok :=
 ⟨by simp [Gp.setR,h.r3],h.u3,fun q hq=>by
  rcases List.mem_or_eq_of_mem_set hq with h1 | h1
  ·exact h.c8 q h1
  ·rw [h1]; exact hr⟩
theorem Gp.ok.setU {g:Gp} (h:g.ok) (i:Nat) (b:Bool):(g.setU i b).ok:=⟨h.r3,by simp [Gp.setU,h.u3],h.c8⟩
theorem Gp.putR {g:Gp} (h:g.ok) {i:Nat} (hi:i<g.r.length) (o:Nat) (vs:List Value) (r':Rp) (ho:o+vs.length≤25) (hp:putL g.r[i].arr.toList o vs=r'.arr.toList) :
  (putL g.arr.toList (i*25+o) vs).toArray=(g.setR i r').arr:=by
 unfold Gp.arr Gp.setR
 have hl:=flatR_length g.r h.c8
 congr 1
 rw [putL_left _ _ _ _ (by have:=h.r3; omega),flatR_put g.r h.c8 i hi o vs r' ho hp]
theorem Gp.putU {g:Gp} (h:g.ok) {i:Nat} (b:Bool):g.arr.setIfInBounds (75+i) (.bool b)=(g.setU i b).arr:=by
 unfold Gp.arr Gp.setU
 have hl:=flatR_length g.r h.c8
 have h3:=h.r3
 apply Array.toList_inj.1
 simp only [Array.toList_setIfInBounds]
 rw [set_app_r (by omega),show 75+i - (flatR g.r).length=i from by omega]
 simp [List.map_set]
theorem gp_row:Tryz.prog.underlying 60=some (.struct (Tryz.prog.fieldsOf 60))∧(Tryz.prog.info? 60).map (·.size)=some 78:=by constructor <;> kernel_rfl
section
variable {w:World} {N i:Nat} {g:Gp} {T:TypeId}
theorem gp_floor (h:w.heap[N]?=some (.cells g.arr T (0,0))) (hg:g.ok) (hi:i<g.r.length):w.cell? ⟨N,i*25,none⟩=some (.int .i64 g.r[i].floor)∧w.frozen? ⟨N,i*25,none⟩=false:=by
 have:=Gp.atR hg hi (j:=0) (by omega)
 rw [Nat.add_zero,Rp.at0] at this
 simp [World.cell?,World.frozen?,h,this]
theorem gp_up (h:w.heap[N]?=some (.cells g.arr T (0,0))) (hg:g.ok) (hi:i<g.u.length):w.cell? ⟨N,75+i,none⟩=some (.bool g.u[i])∧w.frozen? ⟨N,75+i,none⟩=false:=by
 have:=Gp.atU hg hi
 simp [World.cell?,World.frozen?,h,this]
theorem gp_range (h:w.heap[N]?=some (.cells g.arr T (0,0))) (hg:g.ok) (hi:i<g.r.length):w.rangeAt N (i*25) g.r[i].arr.toList∧w.there N (i*25) 25:=by
 have h8:=Rp.size (hg.c8 _ (List.getElem_mem hi))
 have h1:w.rangeAt N (i*25) g.r[i].arr.toList:=fun j v hv=>by
  have hj:j<25:=by
   have:=(List.getElem?_eq_some_iff.1 hv).1
   simp at this; omega
  rw [cell_of_row w N (i*25+j) g.arr T (0,0) h,Gp.atR hg hi hj]
  simpa using hv
 refine ⟨h1,fun j hj=>⟨h1.isSome j (by simp; omega),?_⟩⟩
 simp [World.frozen?,h]
theorem gp_cell {k:Nat} (h:w.heap[N]?=some (.cells g.arr T (0,0))) (hg:g.ok) (hi:i<g.r.length) (hk:k<g.r[i].cells.length) :
  (w.cell? ⟨N,i*25+(1+k*3),none⟩=some (.int .i64 g.r[i].cells[k].e)∧w.cell? ⟨N,i*25+(1+k*3+1),none⟩=some (.int .i64 g.r[i].cells[k].n)∧w.cell? ⟨N,i*25+(1+k*3+2),none⟩=some (.string g.r[i].cells[k].d)) ∧
  w.frozen? ⟨N,i*25+(1+k*3),none⟩=false∧w.frozen? ⟨N,i*25+(1+k*3+1),none⟩=false∧w.frozen? ⟨N,i*25+(1+k*3+2),none⟩=false:=by
 have h8:=hg.c8 _ (List.getElem_mem hi)
 obtain ⟨h1,h2,h3⟩:=g.r[i].at hk
 have e0:=Gp.atR hg hi (j:=1+k*3) (by omega)
 have e1:=Gp.atR hg hi (j:=1+k*3+1) (by omega)
 have e2:=Gp.atR hg hi (j:=1+k*3+2) (by omega)
 rw [h1] at e0
 rw [h2] at e1
 rw [h3] at e2
 simp [World.cell?,World.frozen?,h,e0,e1,e2]
theorem gp_setR (h:w.heap[N]?=some (.cells g.arr T (0,0))) (hg:g.ok) (hi:i<g.r.length) {r:Rp} (hr:r.cells.length=8):(w.setCells N (i*25) r.arr.toList).heap[N]?=some (.cells (g.setR i r).arr T (0,0)):=by
 have hz:=Rp.size hr
 have hy:=Rp.size (hg.c8 _ (List.getElem_mem hi))
 rw [block_setCells _ _ _ _ h,← Gp.putR hg hi 0 r.arr.toList r (by simp; omega) (putL_all (by simp; omega)),Nat.add_zero]
theorem gp_setC {k:Nat} (h:w.heap[N]?=some (.cells g.arr T (0,0))) (hg:g.ok) (hi:i<g.r.length) (hk:k<g.r[i].cells.length) (c:Cel) :
  (((w.setCell ⟨N,i*25+(1+k*3),none⟩ (.int .i64 c.e)).setCell ⟨N,i*25+(1+k*3+1),none⟩ (.int .i64 c.n)).setCell ⟨N,i*25+(1+k*3+2),none⟩ (.string c.d)).heap[N]?=some (.cells (g.setR i ⟨g.r[i].floor,g.r[i].cells.set k c⟩).arr T (0,0)):=by
 have h8:=hg.c8 _ (List.getElem_mem hi)
 have e:=Gp.putR hg hi (1+k*3) c.vs ⟨g.r[i].floor,g.r[i].cells.set k c⟩ (by simp [Cel.vs]; omega) (by
  have:=congrArg Array.toList (Rp.set g.r[i] c hk)
  simpa [putL,Cel.vs,Nat.add_assoc] using this)
 rw [← e]
 have:=block_setCells c.vs (i*25+(1+k*3)) w _ h
 simpa [World.setCells,Cel.vs,Nat.add_assoc] using this
theorem gp_cellA {k:Nat} (h:w.heap[N]?=some (.cells g.arr T (0,0))) (hg:g.ok) (hi:i<g.r.length) (hk:k<g.r[i].cells.length) :
  (w.cell? ⟨N,i*25+1+k*3,none⟩=some (.int .i64 g.r[i].cells[k].e)∧w.cell? ⟨N,i*25+1+k*3+1,none⟩=some (.int .i64 g.r[i].cells[k].n)∧w.cell? ⟨N,i*25+1+k*3+2,none⟩=some (.string g.r[i].cells[k].d)) ∧
  w.frozen? ⟨N,i*25+1+k*3,none⟩=false∧w.frozen? ⟨N,i*25+1+k*3+1,none⟩=false∧w.frozen? ⟨N,i*25+1+k*3+2,none⟩=false:=by
 simpa only [Nat.add_assoc] using gp_cell h hg hi hk
theorem gp_setCA {k:Nat} (h:w.heap[N]?=some (.cells g.arr T (0,0))) (hg:g.ok) (hi:i<g.r.length) (hk:k<g.r[i].cells.length) (c:Cel) :
  (((w.setCell ⟨N,i*25+1+k*3,none⟩ (.int .i64 c.e)).setCell ⟨N,i*25+1+k*3+1,none⟩ (.int .i64 c.n)).setCell ⟨N,i*25+1+k*3+2,none⟩ (.string c.d)).heap[N]?=some (.cells (g.setR i ⟨g.r[i].floor,g.r[i].cells.set k c⟩).arr T (0,0)):=by
 simpa only [Nat.add_assoc] using gp_setC h hg hi hk c
theorem gp_setU (h:w.heap[N]?=some (.cells g.arr T (0,0))) (hg:g.ok) (b:Bool):(w.setCell ⟨N,75+i,none⟩ (.bool b)).heap[N]?=some (.cells (g.setU i b).arr T (0,0)):=by
 rw [block_setCell h,Gp.putU hg]
end
def Gp.isM (g:Gp) (epoch:Int) (i:Nat):Bool:=g.u.getD i false && decide ((g.r.getD i Rp.zero).floor=epoch)
def Gp.memTo (g:Gp) (epoch:Int) (n:Nat):List Int:=((List.range n).filter (g.isM epoch)).map Int.ofNat
def Gp.mem (g:Gp) (epoch:Int):List Int:=g.memTo epoch 3
theorem Gp.mem_succ (g:Gp) (epoch:Int) (n:Nat):g.memTo epoch (n+1)=g.memTo epoch n ++ (if g.isM epoch n then [(n:Int)] else []):=by
 unfold Gp.memTo
 rw [List.range_succ,List.filter_append,List.map_append]
 congr 1
 cases h:g.isM epoch n <;> simp [h]
theorem Gp.mem_len (g:Gp) (epoch:Int) (n:Nat):(g.memTo epoch n).length≤n:=by
 unfold Gp.memTo
 rw [List.length_map]
 exact Nat.le_trans (List.length_filter_le _ _) (by simp)
theorem Gp.mem_lt {g:Gp} {epoch:Int} {n:Nat} {x:Int} (h:x∈g.memTo epoch n):∃ i:Nat,x=i∧i<n∧g.isM epoch i=true:=by
 unfold Gp.memTo at h
 simp only [List.mem_map,List.mem_filter,List.mem_range] at h
 obtain ⟨i,⟨h1,h2⟩,rfl⟩:=h
 exact ⟨i,rfl,h1,h2⟩
section
variable {P:Program} {ops:Array Oper} {rest:List Oper} {op:Oper} {a:Act} {w:World} {Q:Exit→Act→World→Prop}
theorem ld_mid1 (hgd:op.guard=none) (ty:TypeId) (x:Operand) (ho:op.op=.load ty x)
  (h:∃ (b o:Nat) (cs:Array Value) (d:TypeDesc),a.eval x=.pointer (some ⟨b,o,none⟩)∧w.rangeAt b o cs.toList∧P.underlying ty=some d∧d.isRow=true∧(P.info? ty).map (·.size)=some cs.size∧wpList P ops Q rest (a.put op.dst (.agg cs)) w):wpList P ops Q (op :: rest) a w:=by
 obtain ⟨b,o,cs,d,h1,h2,h3,h4,h5,h6⟩:=h
 exact wpList_load_midA hgd ty x ho b o h1 cs d h2 h3 h4 h5 h6
theorem st_mid1 (hgd:op.guard=none) (ty:TypeId) (x y:Operand) (ho:op.op=.store ty x y)
  (h:∃ (b o:Nat) (cs:Array Value),a.eval x=.pointer (some ⟨b,o,none⟩)∧a.eval y=.agg cs∧w.there b o cs.size∧(P.info? ty).map (·.size)=some cs.size∧cs.all (·.oneCell')=true∧wpList P ops Q rest (a.put op.dst undef) (w.setCells b o cs.toList)):wpList P ops Q (op :: rest) a w:=by
 obtain ⟨b,o,cs,h1,h2,h3,h4,h5,h6⟩:=h
 exact wpList_store_mid hgd ty x y ho b o cs h1 h2 h3 h4 h5 h6
theorem ld_row1 (hgd:op.guard=none) (ty:TypeId) (x:Operand) (ho:op.op=.load ty x)
  (h:∃ (g:Nat) (t:TypeId) (cs:Array Value) (d:TypeDesc),a.eval x=.pointer (some ⟨g,0,none⟩)∧w.heap[g]?=some (.cells cs t (0,0))∧P.underlying ty=some d∧d.isRow=true∧(P.info? ty).map (·.size)=some cs.size∧wpList P ops Q rest (a.put op.dst (.agg cs)) w):wpList P ops Q (op :: rest) a w:=by
 obtain ⟨g,t,cs,d,h1,h2,h3,h4,h5,h6⟩:=h
 exact wpList_load_row hgd ty x ho g h1 t cs (0,0) d h2 h3 (by cases d <;> simp_all) h5 h6
theorem st_row1 (hgd:op.guard=none) (ty:TypeId) (x y:Operand) (ho:op.op=.store ty x y)
  (h:∃ (g:Nat) (t:TypeId) (cs old:Array Value),a.eval x=.pointer (some ⟨g,0,none⟩)∧a.eval y=.agg cs∧w.heap[g]?=some (.cells old t (0,0))∧(P.info? ty).map (·.size)=some cs.size∧old.size=cs.size∧cs.all (·.oneCell')=true∧wpList P ops Q rest (a.put op.dst undef) (w.setRow g cs)):wpList P ops Q (op :: rest) a w:=by
 obtain ⟨g,t,cs,old,h1,h2,h3,h4,h5,h6,h7⟩:=h
 exact wpList_store_row hgd ty x y ho g cs h1 h2 t old h3 h4 h5 h6 h7
end
def Gp.zero:Gp:=⟨List.replicate 3 Rp.zero,List.replicate 3 false⟩
def Gp.start:Gp:=⟨List.replicate 3 Rp.start,List.replicate 3 true⟩
def Gp.startTo (k:Nat):Gp:=⟨List.replicate k Rp.start ++ List.replicate (3 - k) Rp.zero,List.replicate k true ++ List.replicate (3 - k) false⟩
theorem startTo_ok (k:Nat) (hk:k≤3):(Gp.startTo k).ok:=by
 refine ⟨by simp [Gp.startTo]; omega,by simp [Gp.startTo]; omega,fun r hr=>?_⟩
 simp only [Gp.startTo,List.mem_append,List.mem_replicate] at hr
 rcases hr with ⟨-,rfl⟩ | ⟨-,rfl⟩ <;> rfl
theorem startTo_succ (k:Nat) (hk:k<3):((Gp.startTo k).setR k Rp.start).setU k true=Gp.startTo (k+1):=by
 rcases (by omega:k=0∨k=1∨k=2) with rfl | rfl | rfl <;> rfl
theorem gp_zero_arr:Tryz.zeroCells60=Gp.zero.arr:=by kernel_rfl
set_option maxRecDepth 100000 in
set_option maxHeartbeats 200000 in
theorem gnew_any (w:World):Calls Tryz.prog 48 #[] w fun e w'=>e=.returned (.agg Gp.start.arr)∧Below w.heap.size w w':=by
 go_enter Tryz.func48,Tryz.ntmps48
 go_upto_region 2 with fail
 obtain ⟨w1,hw1⟩:∃ w1,w1=(w.alloc (.cells Gp.zero.arr 60)).alloc (.cells Gp.zero.arr 60):=⟨_,rfl⟩
 rw [← gp_zero_arr] at hw1
 rw [← hw1]
 rw [gp_zero_arr] at hw1
 have HB:=Lib.hid (show Below w.heap.size w w1 from hw1▸(bal w _).alloc (by simp) _)
 have HO:=Lib.hid (show w1.heap[w.heap.size]?=some (.cells Gp.zero.arr 60 (0,0)) from hw1▸heap_alloc2_old w _ _)
 have HG:=Lib.hid (show w1.heap[w.heap.size+1]?=some (.cells Gp.zero.arr 60 (0,0)) from hw1▸heap_alloc2_new w _ _)
 clear hw1
 go_wp2
 go_loopw [3] (fun i wr=>∃ k:Nat,k≤3∧i=.int .i64 k∧wr.heap[w.heap.size+1]?=some (.cells (Gp.startTo k).arr 60 (0,0))∧wr.heap[w.heap.size]?=some (.cells Gp.zero.arr 60 (0,0))∧Below w.heap.size w wr) (fun i _=>3 - (intOf i).toNat)
 case atStart=>exact ⟨0,by omega,rfl,HG.out,HO.out,HB.out⟩
 case round =>
  obtain ⟨k,hk,rfl,hG,hO,hB⟩:=hrel
  by_cases hk3:k<3
  ·have ok:=startTo_ok k hk
   have hkr:k<(Gp.startTo k).r.length:=by rw [ok.r3]; exact hk3
   have HX:=Lib.hid hG
   have HY:=Lib.hid hO
   have HZ:=Lib.hid hB
   have OK:=Lib.hid ok
   have HKR:=Lib.hid hkr
   clear hG hO hB ok hkr HO HG HB
   go_wp2_with fail
   refine (new_any _).mono ?_
   rintro e w3 ⟨rfl,b3⟩
   obtain ⟨S,hS⟩:∃ S,Rp.start=S:=⟨_,rfl⟩
   rw [hS]
   have HS:=Lib.hid (show ((Gp.startTo k).setR k S).setU k true=Gp.startTo (k+1) from hS▸startTo_succ k hk3)
   have S8:S.cells.length=8:=by rw [← hS]; rfl
   have HX3:=Lib.hid ((b3.block _ (Array.getElem?_eq_some_iff.1 HX.out).1).trans HX.out)
   have HY3:=Lib.hid ((b3.block _ (Array.getElem?_eq_some_iff.1 HY.out).1).trans HY.out)
   have HZ3:=Lib.hid (HZ.out.trans (b3.mono HZ.out.size))
   clear HX HY HZ b3 hS
   have Z3:=Lib.hid (Rp.size S8)
   have TH:=Lib.hid (show w3.there (w.heap.size+1) (k*25) S.arr.size from by rw [Z3.out]; exact (gp_range HX3.out OK.out HKR.out).2)
   have W3:=Lib.hid (gp_setR HX3.out OK.out HKR.out S8)
   have OK3:=Lib.hid (OK.out.setR k S8)
   clear S8
   obtain ⟨u0,u1⟩:=gp_up W3.out OK3.out (i:=k) (by rw [OK3.out.u3]; exact hk3)
   have W4:=Lib.hid (gp_setU W3.out OK3.out (i:=k) true)
   have K4:=Lib.hid ((Keeps.setCells (S:=(·=w.heap.size+1)) rfl S.arr.toList (k*25) w3 w3 (Keeps.refl _ _)).setCell (p:=⟨w.heap.size+1,75+k,none⟩) rfl (.bool true))
   go_wp2_with ((with_reducible refine st_mid1 rfl 56 _ _ rfl ?_); refine ⟨w.heap.size+1,k*25,S.arr,rfl,rfl,TH.out,by rw [rp_row.2.1,Z3.out],Rp.one _,?_⟩)
   go_roundw
   case rel=>exact ⟨k+1,by omega,by go_num,by rw [← HS.out]; exact W4.out,(K4.out.block _ (by omega) (Array.getElem?_eq_some_iff.1 HY3.out).1).trans HY3.out,HZ3.out.trans (K4.out.below HZ3.out.size (fun m hm=>by omega))⟩
   case measure=>simp [intOf]; omega
  ·obtain rfl:k=3:=by omega
   obtain ⟨G,hGS⟩:∃ G,Gp.startTo 3=G:=⟨_,rfl⟩
   have ok:=startTo_ok 3 (by omega)
   rw [hGS] at hG ok
   have HE:=Lib.hid (show Gp.start=G from hGS▸rfl)
   have Z:=Lib.hid (Gp.size ok)
   have HX:=Lib.hid hG
   have HY:=Lib.hid hO
   have HZ:=Lib.hid hB
   clear hGS ok hG hO hB HO HG HB
   go_wp2_with (first | ((with_reducible refine ld_row1 rfl 60 _ rfl ?_); refine ⟨w.heap.size+1,_,G.arr,_,rfl,HX.out,gp_row.1,rfl,by rw [gp_row.2,Z.out],?_⟩) | ((with_reducible refine st_row1 rfl 60 _ _ rfl ?_); refine ⟨w.heap.size,_,G.arr,_,rfl,rfl,HY.out,by rw [gp_row.2,Z.out],by rw [Z.out]; rfl,Gp.one _,?_⟩))
   refine bodyPost_ret (v:=.agg G.arr) (results_row1 Tryz.results48 _ _ w.heap.size 60 G.arr (0,0) _ rfl (setRow_heap _ _ _ _ _ _ HY.out) gp_row.1 rfl (by rw [gp_row.2,Z.out])) rfl ?_
   exact ⟨by rw [HE.out],HZ.out.trans (((Keeps.refl (·=w.heap.size) wr).setRow rfl _).below HZ.out.size (fun m hm=>by omega))⟩
set_option maxRecDepth 100000 in
set_option maxHeartbeats 2000000 in
theorem members_any (g:Gp) (epoch:Int) (w:World) (hg:g.ok):Calls Tryz.prog 29 #[.agg g.arr,.int .i64 epoch] w fun e w'=>∃ a c,e=.returned (.slice a (g.mem epoch).length c)∧OwnI (w.heap.size+1) w' (.slice a (g.mem epoch).length c) (g.mem epoch)∧Below w.heap.size w w':=by
 have OK:=Lib.hid hg
 clear hg
 go_enter Tryz.func29,Tryz.ntmps29
 go_upto_region 2 with fail
 obtain ⟨w1,hw1⟩:∃ w1,w1=w.alloc (.cells g.arr 60):=⟨_,rfl⟩
 rw [← hw1]
 have HB:=Lib.hid (show Below w.heap.size w w1 from hw1▸bal w _)
 have HG:=Lib.hid (show w1.heap[w.heap.size]?=some (.cells g.arr 60 (0,0)) from hw1▸heap_alloc_new w _)
 clear hw1
 go_wp2
 go_loopw [5,7] (fun v i wr=>∃ k:Nat,k≤3∧i=.int .i64 k∧OwnI (w.heap.size+1) wr v (g.memTo epoch k)∧wr.heap[w.heap.size]?=some (.cells g.arr 60 (0,0))∧Below w.heap.size w wr) (fun _ i _=>3 - (intOf i).toNat)
 case atStart=>exact ⟨0,by omega,rfl,⟨rfl,.inl ⟨rfl,rfl⟩⟩,HG.out,HB.out⟩
 case round =>
  obtain ⟨k,hk,rfl,hO,hG,hB⟩:=hrel
  obtain ⟨L,hL⟩:∃ L,g.memTo epoch k=L:=⟨_,rfl⟩
  rw [hL] at hO
  obtain ⟨av,cv,rfl,-⟩:=hO.shape
  have hLk:L.length≤k:=hL▸g.mem_len epoch k
  obtain ⟨n,hn⟩:∃ n,L.length=n:=⟨_,rfl⟩
  have HLN:=Lib.hid hn
  have HL:=Lib.hid hL
  rw [hn] at hLk hO ⊢
  have HO:=Lib.hid hO
  have HX:=Lib.hid hG
  have HZ:=Lib.hid hB
  clear hO hG hB HG HB hn hL
  by_cases hk3:k<3
  ·have hkr:k<g.r.length:=by rw [OK.out.r3]; exact hk3
   have hku:k<g.u.length:=by rw [OK.out.u3]; exact hk3
   obtain ⟨u0,-⟩:=gp_up HX.out OK.out hku
   obtain ⟨f0,-⟩:=gp_floor HX.out OK.out hkr
   obtain ⟨U,hU⟩:∃ U,g.u[k]=U:=⟨_,rfl⟩
   obtain ⟨F,hF⟩:∃ F,g.r[k].floor=F:=⟨_,rfl⟩
   rw [hU] at u0
   rw [hF] at f0
   have HM:=Lib.hid (show g.isM epoch k=(U && decide (F=epoch)) from by unfold Gp.isM; rw [← hU,← hF]; simp [hku,hkr])
   have HSU:=Lib.hid (g.mem_succ epoch k)
   clear hU hF hkr hku
   cases U
   ·have HE:=Lib.hid (show g.memTo epoch (k+1)=L from by rw [HSU.out,HM.out,HL.out]; simp)
    clear f0
    go_wp2
    go_roundw
    case rel=>exact ⟨k+1,by omega,by go_num,by rw [HE.out]; exact HO.out,HX.out,HZ.out⟩
    case measure=>simp [intOf]; omega
   ·by_cases hF:F=epoch
    ·have eb:(F == epoch)=true:=by simp [hF]
     have HE:=Lib.hid (show g.memTo epoch (k+1)=L ++ [(k:Int)] from by rw [HSU.out,HM.out,HL.out]; simp [hF])
     clear hF
     obtain ⟨i0,hi,hz0,hz1,hz2⟩:=info_parts Tryz.infoInt
     have OW:=Lib.hid (fun o=>show (wr.alloc o).ownsRow (w.heap.size+1) 3 1 (.slice av n cv) n (L.map (Value.int .i64)) from by
      have:=HO.out.below (bal wr o)
      unfold OwnI at this
      rwa [HLN.out] at this)
     go_wp2_with (at_builtin; refine wpList_append_own _ rfl _ _ 65 rfl (w.heap.size+1) 3 i0 (.int .i64 0) 1 8 Tryz.underlying65 hi hz0 hz1 hz2 rfl (by decide) _ _ _ rfl (OW.out _) ⟨wr.heap.size,0,none⟩ 1 1 [.int .i64 k] rfl rfl ?c1 ?c2 ?c3 ?c4 ?c5 ?_)
     case c1 =>
      intro j u hj
      match j,hj with
      | 0,hj=>simp at hj; subst hj; simp [Addr.add]
     case c2=>intro u hu; simp at hu; subst hu; rfl
     case c3=>unfold maxLen; omega
     case c4=>omega
     case c5=>exact Nat.le_trans (Array.getElem?_eq_some_iff.1 HX.out).1 (bal wr _).size
     intro v' w7 hown1 hg1 _
     have HN:=Lib.hid (show OwnI (w.heap.size+1) w7 v' (g.memTo epoch (k+1)) from by rw [HE.out]; simpa [OwnI,HLN.out] using hown1)
     have HX7:=Lib.hid (show w7.heap[w.heap.size]?=some (.cells g.arr 60 (0,0)) from by
      have hlt:=(Array.getElem?_eq_some_iff.1 HX.out).1
      rw [hg1.block w.heap.size (by simp; omega) (fun e=>by have:=HO.out.blk _ e.symm; omega),Below.heap_alloc _ _ _ hlt]
      exact HX.out)
     have HZ7:=Lib.hid ((HZ.out.trans ((bal wr _).mono HZ.out.size)).grown hg1 (Nat.le_trans HZ.out.size (bal wr _).size) (fun m hm=>by have:=HO.out.blk m hm; omega))
     clear hown1 hg1
     go_wp2
     go_roundw
     case rel=>exact ⟨k+1,by omega,by go_num,HN.out,HX7.out,HZ7.out⟩
     case measure=>simp [intOf]; omega
    ·have eb:(F == epoch)=false:=by simp [hF]
     have HE:=Lib.hid (show g.memTo epoch (k+1)=L from by rw [HSU.out,HM.out,HL.out]; simp [hF])
     clear hF
     go_wp2
     go_roundw
     case rel=>exact ⟨k+1,by omega,by go_num,by rw [HE.out]; exact HO.out,HX.out,HZ.out⟩
     case measure=>simp [intOf]; omega
  ·obtain rfl:k=3:=by omega
   have HLL:=Lib.hid (show g.mem epoch=L from HL.out)
   go_wp2
   go_ret
   exact ⟨av,cv,by rw [HLL.out,HLN.out]; rfl,by rw [HLL.out,HLN.out]; exact HO.out,HZ.out⟩
end Go.Proofs.YtajegiifabfcjaaGreatDoor
