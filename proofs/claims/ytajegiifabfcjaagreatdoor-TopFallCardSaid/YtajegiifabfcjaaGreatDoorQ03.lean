/-
  DiskR, DiskT, KpPlain, Cel, Rp, Same, Own
-/
import Derived.Test.YtajegiifabfcjaaGreatDoorQ02
import Derived.StillTailTactics
import Derived.StillTail
import Derived.Deep.DeepCutAuto
import Derived.Laws.CopyRow
import Derived.Laws.StructEq
import Derived.Laws.Rows
import Derived.ChangeKeysEq
import Derived.Deep.MidRow
import Derived.WalkSpells
import Derived.Lib.LazyBuf
namespace Go.Proofs.YtajegiifabfcjaaGreatDoor
open Go.RowKit
def Dk.readF (n:Nat) (d:Dk) (p:Int):Int:=if d.down then 10 else if p<0∨n≤p then 1 else 0
def Dk.readS (n:Nat) (d:Dk) (p:Int):ByteArray:=if d.down then ⟨#[]⟩ else if p<0∨n≤p then ⟨#[]⟩ else d.now.getD p.toNat ⟨#[]⟩
set_option maxRecDepth 100000 in
theorem dread_any (S:Nat→Prop) (w:World) (D n:Nat) (d:Dk) (p:Int) (h:DkAt S w 132 134 D n d) (ok:d.ok n) :
  Calls Tryz.prog 127 #[.pointer (some ⟨D,0,none⟩),.int .i64 p] w fun e w'=>e=.returned (.tuple #[.string (d.readS n p),errV (d.readF n p)])∧w'=w:=by
 obtain ⟨K,N,ck,cn,wv,r,-⟩:=h
 have R:=Lib.hid r
 obtain ⟨⟨c0,c1,c2,c3,c4⟩,f0,f1,f2,f3,f4⟩:=r.cells
 have NL:=Lib.hid ok.nl
 clear r ok
 obtain ⟨kept,now,wait,f,b⟩:=d
 dsimp only at c3 c4
 cases b
 ·by_cases h1:p<0
  ·rw [show Dk.readF n ⟨kept,now,wait,f,false⟩ p=1 from (if_neg (by simp)).trans (if_pos (.inl h1)),show Dk.readS n ⟨kept,now,wait,f,false⟩ p=⟨#[]⟩ from (if_neg (by simp)).trans (if_pos (.inl h1))]
   go_enter Tryz.func127,Tryz.ntmps127
   go_wp2
   exact bodyPost_ret (v:=.tuple #[.string ⟨#[]⟩,.iface 95 (.int .i64 1)]) (by simp [results,Tryz.results127,go_sem]) rfl ⟨rfl,rfl⟩
  by_cases h2:(n:Int)≤p
  ·rw [show Dk.readF n ⟨kept,now,wait,f,false⟩ p=1 from (if_neg (by simp)).trans (if_pos (.inr h2)),show Dk.readS n ⟨kept,now,wait,f,false⟩ p=⟨#[]⟩ from (if_neg (by simp)).trans (if_pos (.inr h2))]
   go_enter Tryz.func127,Tryz.ntmps127
   go_wp2
   exact bodyPost_ret (v:=.tuple #[.string ⟨#[]⟩,.iface 95 (.int .i64 1)]) (by simp [results,Tryz.results127,go_sem]) rfl ⟨rfl,rfl⟩
  obtain ⟨k,rfl⟩:∃ k:Nat,p=k:=⟨p.toNat,by omega⟩
  have hk:k<now.length:=by have:now.length=n:=NL.out; omega
  obtain ⟨X,hX⟩:∃ X,now[k]=X:=⟨_,rfl⟩
  have kn:w.cell? ⟨N,k,none⟩=some (.string X):=hX▸(R.out.now.cell (i:=k) hk).1
  rw [show Dk.readF n ⟨kept,now,wait,f,false⟩ k=0 from (if_neg (by simp)).trans (if_neg (by omega)),show Dk.readS n ⟨kept,now,wait,f,false⟩ k=X from (if_neg (by simp)).trans ((if_neg (by omega)).trans (by rw [← hX]; simp [hk]))]
  have q1:decide ((k:Int)<0)=false:=by rw [decide_eq_false_iff_not]; omega
  have q2:decide (n≤k)=false:=by rw [decide_eq_false_iff_not]; omega
  have hkn:(k:Int)<(n:Int):=by omega
  have hk0:(0:Int)≤(k:Int):=by omega
  clear h1 h2 hX hk
  go_enter Tryz.func127,Tryz.ntmps127
  go_wp2
  exact bodyPost_ret (v:=.tuple #[.string X,.nilIface]) (by simp [results,Tryz.results127,go_sem]) rfl ⟨rfl,rfl⟩
 ·go_enter Tryz.func127,Tryz.ntmps127
  go_wp2
  exact bodyPost_ret (v:=.tuple #[.string ⟨#[]⟩,.iface 95 (.int .i64 10)]) (by simp [results,Tryz.results127,go_sem]) rfl ⟨rfl,rfl⟩
theorem dsectors_any (S:Nat→Prop) (w:World) (D n:Nat) (d:Dk) (h:DkAt S w 132 134 D n d) :
  Calls Tryz.prog 84 #[.pointer (some ⟨D,0,none⟩)] w fun e w'=>e=.returned (.int .i64 n)∧w'=w:=by
 obtain ⟨K,N,ck,cn,wv,r,-⟩:=h
 obtain ⟨⟨c0,c1,c2,c3,c4⟩,f0,f1,f2,f3,f4⟩:=r.cells
 clear r
 go_enter Tryz.func84,Tryz.ntmps84
 go_wp2
 go_ret
 exact ⟨rfl,rfl⟩
theorem ddown_any (S:Nat→Prop) (w:World) (D n:Nat) (d:Dk) (h:DkAt S w 132 134 D n d) :
  Calls Tryz.prog 104 #[.pointer (some ⟨D,0,none⟩)] w fun e w'=>e=.returned (.bool d.down)∧w'=w:=by
 obtain ⟨K,N,ck,cn,wv,r,-⟩:=h
 obtain ⟨⟨c0,c1,c2,c3,c4⟩,f0,f1,f2,f3,f4⟩:=r.cells
 clear r
 go_enter Tryz.func104,Tryz.ntmps104
 go_wp2
 go_ret
 exact ⟨rfl,rfl⟩
theorem darm_any (S:Nat→Prop) (w:World) (D n:Nat) (d:Dk) (p:Int) (h:DkAt S w 132 134 D n d) :
  Calls Tryz.prog 38 #[.pointer (some ⟨D,0,none⟩),.int .i64 p] w fun e w'=>e=.returned (.tuple #[])∧DkAt S w' 132 134 D n { d with fuse:=max p (-1) }∧Keeps S w w':=by
 obtain ⟨K,N,ck,cn,wv,r,s1,s2,s3,s4⟩:=h
 have R:=Lib.hid (show DkAt S _ 132 134 D n _ from ⟨K,N,ck,cn,wv,r.setF (max p (-1)),s1,s2,s3,s4⟩)
 have KP:=Lib.hid ((Keeps.refl S w).setCell (p:=⟨D,3,none⟩) s1 (.int .i64 (max p (-1))))
 obtain ⟨⟨c0,c1,c2,c3,c4⟩,f0,f1,f2,f3,f4⟩:=r.cells
 clear r s1 s2 s3 s4
 go_enter Tryz.func38,Tryz.ntmps38
 go_wp2
 go_end0
 exact ⟨rfl,R.out,KP.out⟩
theorem region_tail2 {P:Program} {id:Nat} {Q:Exit→Act→World→Prop} {a:Act} {w:World} {l:List Oper} (n:Nat) (hm:P.follows .mixedOrders=true) (hB:Region.lexTailB .any l.toArray n=true)
  (h:∀ wd,Below w.heap.size w wd→wd.heap=w.heap→wpStill P l.toArray wd (fun a'=>wpList P l.toArray Q (l.drop n) a' wd) (l.take n) a):(Code.region id l.toArray true).wp P Q a w :=
 wp_region_still_tail n hm hB (h w.drew (Below.refl _ _).drew rfl)
def Dk.flush (d:Dk):Dk:=if d.steps then { d.step with kept:=d.now,wait:=[] } else d.step
theorem add_zero_at (b j:Nat):(⟨b,0,none⟩:Addr).add j=⟨b,j,none⟩:=by unfold Addr.add; split <;> simp_all
theorem RowS.src {w:World} {g:Nat} {l:List ByteArray} (h:RowS w g l):∀ j v,(strs l)[j]?=some v→w.cell? ((⟨g,0,none⟩:Addr).add j)=some v:=by
 intro j v hj
 rw [add_zero_at]
 have hl:j<l.length:=by
  have:=(List.getElem?_eq_some_iff.1 hj).1
  simpa [strs] using this
 rw [(h.cell hl).1]
 simpa [strs,hl] using hj
theorem strs_len (l:List ByteArray):(strs l).length=l.length:=by simp [strs]
theorem copy_rows {w:World} {K N n ck cn:Nat} {l m:List ByteArray} (hk:RowS w K l) (hn:RowS w N m) (h1:l.length=n) (h2:m.length=n) (ty:TypeId) :
  ∃ cur,RowS (w.setRow K cur) K m∧(Builtin.copy_ #[99,99] ty #[.slice (some ⟨K,0,none⟩) n ck,.slice (some ⟨N,0,none⟩) n cn]).run Tryz.prog w=.ok (goInt n) (w.setRow K cur):=by
 have hk':=hk
 obtain ⟨cur,hc,hs,-⟩:=hk
 refine ⟨_,RowS.put hk' cur hc,?_⟩
 have hz:(Tryz.prog.info? 9).map (·.size)=some 1:=by kernel_rfl
 have:=run_copy_row (P:=Tryz.prog) w 99 99 ty 9 K 0 n ck ⟨N,0,none⟩ n cn cur 9 (strs m) Tryz.underlying99 hz hc (by rw [strs_len,h2]; exact (Nat.min_self n).symm) hn.src (by rw [strs_len]; omega) (strs_one m)
 rw [show goInt (strs m).length=goInt n from by rw [strs_len,h2]] at this
 exact this
theorem DkR.setK {w:World} {T Tt:TypeId} {D K N ck cn:Nat} {wv:Value} {n:Nat} {d:Dk} (h:DkR w T Tt D K N ck cn wv n d) {cur:Array Value} {l:List ByteArray} (hr:RowS (w.setRow K cur) K l) :
  DkR (w.setRow K cur) T Tt D K N ck cn wv n { d with kept:=l }:=by
 have o:∀ b,b≠K→(w.setRow K cur).heap[b]?=w.heap[b]?:=fun b hb=>setRow_other _ _ _ _ hb
 exact ⟨(o D (Ne.symm h.kd)).trans h.blk,hr,h.now.move (o N (Ne.symm h.kn)),own_move h.wait (fun b hb=>o b (fun e=>h.wk (e▸hb))),h.kd,h.nd,h.kn,h.wd,h.wk,h.wn,h.nc⟩
theorem DkR.setNr {w:World} {T Tt:TypeId} {D K N ck cn:Nat} {wv:Value} {n:Nat} {d:Dk} (h:DkR w T Tt D K N ck cn wv n d) {cur:Array Value} {l:List ByteArray} (hr:RowS (w.setRow N cur) N l) :
  DkR (w.setRow N cur) T Tt D K N ck cn wv n { d with now:=l }:=by
 have o:∀ b,b≠N→(w.setRow N cur).heap[b]?=w.heap[b]?:=fun b hb=>setRow_other _ _ _ _ hb
 exact ⟨(o D (Ne.symm h.nd)).trans h.blk,h.kept.move (o K h.kn),hr,own_move h.wait (fun b hb=>o b (fun e=>h.wn (e▸hb))),h.kd,h.nd,h.kn,h.wd,h.wk,h.wn,h.nc⟩
theorem DkR.setWn {w:World} {T Tt:TypeId} {D K N ck cn:Nat} {wv:Value} {n:Nat} {d:Dk} (h:DkR w T Tt D K N ck cn wv n d):DkR (w.setCell ⟨D,2,none⟩ (.slice none 0 0)) T Tt D K N ck cn (.slice none 0 0) n { d with wait:=[] } :=
 h.setW (l:=[]) rfl (World.ownsRow_nil w 0 Tt 2) (Keeps.refl _ _) (fun b hb=>by cases hb)
theorem keeps_row {S:Nat→Prop} {a w:World} (h:Keeps S a w) {g:Nat} (hg:S g) (cs:Array Value):Keeps S a (w.setRow g cs) :=
 h.trans ⟨rfl,rfl,rfl,by simp,fun k hk _=>setRow_other _ _ _ _ (fun e=>hk (e▸hg))⟩
set_option maxRecDepth 100000 in
set_option maxHeartbeats 1000000 in
theorem dflush_any (S:Nat→Prop) (w:World) (D n:Nat) (d:Dk) (h:DkAt S w 132 134 D n d) (ok:d.ok n) :
  Calls Tryz.prog 86 #[.pointer (some ⟨D,0,none⟩)] w fun e w'=>e=.returned (errV (if d.steps then 0 else 10))∧DkAt S w' 132 134 D n d.flush∧Keeps S w w':=by
 obtain ⟨K,N,ck,cn,wv,r,s1,s2,s3,s4⟩:=h
 have OK:=Lib.hid ok
 have S1:=Lib.hid s1
 have S2:=Lib.hid s2
 have S3:=Lib.hid s3
 have S4:=Lib.hid s4
 have STEP:=Lib.hid (step_any w D K N ck cn n wv d r ⟨ok.fu,ok.fm⟩)
 clear r s1 s2 s3 s4 ok
 unfold Dk.flush
 obtain ⟨B,hB⟩:∃ B,d.steps=B:=⟨_,rfl⟩
 rw [hB] at STEP ⊢
 clear hB
 go_enter Tryz.func86,Tryz.ntmps86
 go_wp2_with fail
 refine STEP.out.mono ?_
 clear STEP
 rintro e w1 ⟨he,r1,k1⟩
 have R1:=Lib.hid r1
 have K1:=Lib.hid (k1.mono (T:=S) (fun b hb=>hb▸S1.out))
 cases B
 ·obtain rfl:e=.returned (.iface 95 (.int .i64 10)):=he
  clear r1 k1
  go_wp2
  go_ret
  exact ⟨rfl,⟨K,N,ck,cn,wv,R1.out,S1.out,S2.out,S3.out,S4.out⟩,K1.out⟩
 obtain rfl:e=.returned .nilIface:=he
 clear r1 k1
 go_upto_region 3 with fail
 refine region_tail2 8 (by kernel_rfl) (by kernel_rfl) ?_
 intro wd hwd hwh
 have r2:=R1.out.below hwd
 obtain ⟨⟨c0,c1,-,-,-⟩,-⟩:=r2.cells
 have R2:=Lib.hid r2
 have K2:=Lib.hid (K1.out.trans (Keeps.of_below hwd))
 clear r2 hwd hwh K1 R1
 simp only [List.take_succ_cons,List.take_zero,List.drop_succ_cons,List.drop_zero]
 repeat still_step
 refine wpStill_nil ?_
 obtain ⟨cur,hcur,hr⟩:=copy_rows (n:=n) (ck:=ck) (cn:=cn) R2.out.kept R2.out.now (by rw [(Dk.step_lists d).1]; exact OK.out.kl) (by rw [(Dk.step_lists d).2.1]; exact OK.out.nl) 3
 have R3:=Lib.hid (R2.out.setK hcur)
 have K3:=Lib.hid (keeps_row K2.out (g:=K) S2.out cur)
 clear hcur
 obtain ⟨⟨-,-,g2,-,-⟩,-,-,h2,-⟩:=R3.out.cells
 have R4:=Lib.hid R3.out.setWn
 have K4:=Lib.hid (K3.out.setCell (p:=⟨D,2,none⟩) S1.out (.slice none 0 0))
 clear c0 c1 R3 K3 R2 K2
 go_wp2_with (at_builtin; refine Lib.wpList_copy_run _ rfl _ _ 99 99 rfl _ _ rfl rfl hr ?_)
 go_ret
 exact ⟨rfl,⟨K,N,ck,cn,.slice none 0 0,by rw [← (Dk.step_lists d).2.1]; exact R4.out,S1.out,S2.out,S3.out,fun b hb=>by cases hb⟩,K4.out⟩
def bitK (keep:Int) (k:Nat):Bool:=bits BinOp.and IntKind.u64 (keep / 2 ^ (k % 64)) 1 == 1
def Dk.restTo (keep:Int) (d:Dk):Nat→List ByteArray
 | 0=>d.kept
 | k+1=>if bitK keep k then (d.restTo keep k).set (d.wait.getD k (0,⟨#[]⟩)).1 (d.wait.getD k (0,⟨#[]⟩)).2 else d.restTo keep k
theorem Dk.restTo_len (keep:Int) (d:Dk):∀ k,(d.restTo keep k).length=d.kept.length
 | 0=>rfl
 | k+1=>by
  have ih:=Dk.restTo_len keep d k
  unfold Dk.restTo
  split
  ·rw [List.length_set]; exact ih
  ·exact ih
def Dk.restart (keep:Int) (d:Dk):Dk:=⟨d.restTo keep d.wait.length,d.restTo keep d.wait.length,[],-1,false⟩
theorem DkR.setKc {w:World} {T Tt:TypeId} {D K N ck cn:Nat} {wv:Value} {n:Nat} {d:Dk} (h:DkR w T Tt D K N ck cn wv n d) (k:Nat) (s:ByteArray) :
  DkR (w.setCell ⟨K,k,none⟩ (.string s)) T Tt D K N ck cn wv n { d with kept:=d.kept.set k s }:=by
 have o:∀ b,b≠K→(w.setCell ⟨K,k,none⟩ (.string s)).heap[b]?=w.heap[b]?:=fun b hb=>Below.heap_setCell _ _ _ _ hb
 exact ⟨(o D (Ne.symm h.kd)).trans h.blk,h.kept.set k s,h.now.move (o N (Ne.symm h.kn)),own_move h.wait (fun b hb=>o b (fun e=>h.wk (e▸hb))),h.kd,h.nd,h.kn,h.wd,h.wk,h.wn,h.nc⟩
theorem own_turns {w:World} {Tt:TypeId} {v:Value} {l:List (Nat × ByteArray)} (h:w.ownsRow 0 Tt 2 v l.length (wcells l)) :
  ∃ a cap,v=.slice a l.length cap∧∀ i (hi:i<l.length),∃ b,a=some ⟨b,0,none⟩∧v.ownBlock=some b∧b<w.heap.size∧w.cell? ⟨b,i*2,none⟩=some (.int .i64 l[i].1)∧w.cell? ⟨b,i*2+1,none⟩=some (.string l[i].2):=by
 obtain ⟨h1,h2⟩:=h
 rcases h2 with ⟨rfl,hn⟩ | ⟨g,cap,cur,rfl,hg,hh,hc,hm,hs,ht⟩
 ·exact ⟨none,0,by rw [hn],fun i hi=>absurd hi (by omega)⟩
 ·refine ⟨_,cap,rfl,fun i hi=>⟨g,rfl,rfl,(Array.getElem?_eq_some_iff.1 hh).1,?_⟩⟩
  obtain ⟨p1,p2⟩:=wcells_at l i hi
  have hcell:∀ j,j<l.length*2→w.cell? ⟨g,j,none⟩=(wcells l)[j]?:=by
   intro j hj
   rw [← ht,List.getElem?_take_of_lt hj]
   simp [World.cell?,hh]
  exact ⟨(hcell _ (by omega)).trans p1,(hcell _ (by omega)).trans p2⟩
set_option maxRecDepth 100000 in
set_option maxHeartbeats 1000000 in
theorem drestart_any (S:Nat→Prop) (w:World) (D n:Nat) (d:Dk) (keep:Int) (h:DkAt S w 132 134 D n d) (ok:d.ok n) (hwl:d.wait.length≤1000) :
  Calls Tryz.prog 39 #[.pointer (some ⟨D,0,none⟩),.int .u64 keep] w fun e w'=>e=.returned (.tuple #[])∧DkAt S w' 132 134 D n (d.restart keep)∧Keeps S w w':=by
 obtain ⟨K,N,ck,cn,wv,r,s1,s2,s3,s4⟩:=h
 have OK:=Lib.hid ok
 have S1:=Lib.hid s1
 have S2:=Lib.hid s2
 have S3:=Lib.hid s3
 have S4:=Lib.hid s4
 obtain ⟨⟨c0,c1,c2,c3,c4⟩,f0,f1,f2,f3,f4⟩:=r.cells
 have R:=Lib.hid r
 clear s1 s2 s3 s4 ok r
 obtain ⟨a,cap,rfl,hcl⟩:=own_turns R.out.wait
 have CL:=Lib.hid hcl
 clear hcl
 obtain ⟨W,hW⟩:∃ W,d.wait.length=W:=⟨_,rfl⟩
 rw [hW] at c2
 have HW:=Lib.hid hW
 have hW2:W≤1000:=by omega
 clear hW hwl
 go_enter Tryz.func39,Tryz.ntmps39
 go_wp2
 go_loopw [4,11] (fun v i wr=>∃ k:Nat,k≤W∧i=.int .i64 k∧DkR wr 132 134 D K N ck cn (.slice a d.wait.length cap) n { d with kept:=d.restTo keep k }∧Keeps S w wr) (fun _ i _=>W - (intOf i).toNat)
 case atStart=>exact ⟨0,by omega,rfl,R.out,Keeps.refl _ _⟩
 case round =>
  obtain ⟨k,hk,rfl,r,kp⟩:=hrel
  have RR:=Lib.hid r
  have KP:=Lib.hid kp
  clear r kp
  by_cases hlt:k<W
  ·have hlt':k<d.wait.length:=by rw [HW.out]; exact hlt
   obtain ⟨b,rfl,hbo,hbl,m1,m2⟩:=CL.out k hlt'
   obtain ⟨P,hP⟩:∃ P,d.wait[k]=P:=⟨_,rfl⟩
   have PN:=Lib.hid (show P.1<n from OK.out.wl P (hP▸List.getElem_mem hlt'))
   obtain ⟨p,s⟩:=P
   have HP:=Lib.hid (show d.wait.getD k (0,⟨#[]⟩)=(p,s) from by rw [← hP]; simp [hlt'])
   have OT:=Lib.hid (own_turns RR.out.wait)
   have n12:wr.cell? ⟨b,k*2,none⟩=some (.int .i64 p)∧wr.cell? ⟨b,k*2+1,none⟩=some (.string s):=by
    obtain ⟨a',cap',e,hc⟩:=OT.out
    obtain ⟨b',e2,-,-,x1,x2⟩:=hc k hlt'
    subst e2
    obtain rfl:b=b':=by simpa using congrArg (fun v=>match v with | Value.slice (some a) _ _=>a.block | _=>0) e
    dsimp only at x1 x2
    rw [hP] at x1 x2
    exact ⟨x1,x2⟩
   obtain ⟨n1,n2⟩:=n12
   clear m1 m2 OT hP hbl hbo
   have REST:=Lib.hid (show d.restTo keep (k+1)=if bitK keep k then (d.restTo keep k).set p s else d.restTo keep k from by
    show (if bitK keep k then _ else _)=_
    rw [HP.out])
   obtain ⟨B,hB⟩:∃ B,(bits BinOp.and IntKind.u64 (keep / 2 ^ (k % 64)) 1 == 1)=B:=⟨_,rfl⟩
   have HB:=Lib.hid (show bitK keep k=B from hB)
   rw [HB.out] at REST
   clear hlt'
   have w2b:Below wr.heap.size wr (wr.alloc (.cells #[.int .i64 p,.string s] 134)):=bal wr _
   have R2:=Lib.hid (RR.out.below w2b)
   have K2:=Lib.hid (KP.out.trans (Keeps.of_below w2b))
   cases B
   ·go_wp2
    go_roundw
    case rel=>exact ⟨k+1,by omega,by go_num,by rw [REST.out]; exact R2.out,K2.out⟩
    case measure=>simp [intOf]; omega
   ·go_upto_region 4 with fail
    obtain ⟨w2,hw2⟩:∃ w2,w2=wr.alloc (.cells #[.int .i64 p,.string s] 134):=⟨_,rfl⟩
    obtain ⟨V,hV⟩:∃ V,wr.heap.size=V:=⟨_,rfl⟩
    have hv0:w2.cell? ⟨V,0,none⟩=some (.int .i64 p):=by rw [hw2,← hV]; simp
    have hv1:w2.cell? ⟨V,1,none⟩=some (.string s):=by rw [hw2,← hV]; simp
    rw [← hw2] at R2 K2 ⊢
    rw [hV]
    clear hw2 w2b RR KP n1 n2
    refine region_tail2 8 (by kernel_rfl) (by kernel_rfl) ?_
    intro wd hwd hwh
    have r3:=R2.out.below hwd
    obtain ⟨⟨c0',-,-,-,-⟩,-⟩:=r3.cells
    have vlt:V<w2.heap.size:=World.block_lt_of_cell? w2 ⟨V,0,none⟩ hv0
    have u0:=(hwd.cell (p:=⟨V,0,none⟩) vlt).trans hv0
    have u1:=(hwd.cell (p:=⟨V,1,none⟩) vlt).trans hv1
    have hkl:(d.restTo keep k).length=n:=(d.restTo_len keep k).trans OK.out.kl
    obtain ⟨kn,fn⟩:=r3.kept.cell (i:=p) (by show p<(d.restTo keep k).length; rw [hkl]; exact PN.out)
    obtain ⟨X,hX⟩:∃ X,(d.restTo keep k)[p]'(by rw [hkl]; exact PN.out)=X:=⟨_,rfl⟩
    have kn':wd.cell? ⟨K,p,none⟩=some (.string X):=hX▸kn
    have hp1:(p:Int)<(n:Int):=by have:=PN.out; omega
    have hp0:(0:Int)≤(p:Int):=by omega
    have R4:=Lib.hid (r3.setKc p s)
    have K4:=Lib.hid ((K2.out.trans (Keeps.of_below hwd)).setCell (p:=⟨K,p,none⟩) S2.out (.string s))
    clear r3 hwd hwh hv0 hv1 vlt hkl kn hX K2 R2
    simp only [List.take_succ_cons,List.take_zero,List.drop_succ_cons,List.drop_zero]
    repeat still_step
    refine wpStill_nil ?_
    go_wp2
    go_roundw
    case rel=>exact ⟨k+1,by omega,by go_num,by rw [REST.out]; exact R4.out,K4.out⟩
    case measure=>simp [intOf]; omega
  ·obtain rfl:k=W:=by omega
   have HE:=Lib.hid (show d.restart keep=⟨d.restTo keep k,d.restTo keep k,[],-1,false⟩ from by unfold Dk.restart; rw [HW.out])
   clear hlt hk hW2 HW CL R
   go_upto_region 6 with fail
   refine region_tail2 8 (by kernel_rfl) (by kernel_rfl) ?_
   intro wd hwd hwh
   have r3:=RR.out.below hwd
   obtain ⟨⟨c0',c1',-,-,-⟩,-⟩:=r3.cells
   have K3:=Lib.hid (KP.out.trans (Keeps.of_below hwd))
   obtain ⟨cur,hcur,hr⟩:=copy_rows (n:=n) (ck:=cn) (cn:=ck) r3.now r3.kept OK.out.nl ((d.restTo_len keep k).trans OK.out.kl) 3
   have r4:=r3.setNr hcur
   obtain ⟨⟨-,-,g2,g3,g4⟩,-,-,h2,h3,h4⟩:=r4.cells
   have R5:=Lib.hid ((r4.setWn.setD false).setF (-1))
   have K5:=Lib.hid ((((keeps_row K3.out (g:=N) S3.out cur).setCell (p:=⟨D,2,none⟩) S1.out (.slice none 0 0)).setCell (p:=⟨D,4,none⟩) S1.out (.bool false)).setCell (p:=⟨D,3,none⟩) S1.out (.int .i64 (-1)))
   clear hcur r3 r4 hwd hwh K3 KP RR
   dsimp only at g3 g4
   simp only [List.take_succ_cons,List.take_zero,List.drop_succ_cons,List.drop_zero]
   repeat still_step
   refine wpStill_nil ?_
   go_wp2_with (at_builtin; refine Lib.wpList_copy_run _ rfl _ _ 99 99 rfl _ _ rfl rfl hr ?_)
   go_end0
   exact ⟨rfl,⟨K,N,ck,cn,.slice none 0 0,by rw [HE.out]; exact R5.out,S1.out,S2.out,S3.out,fun b hb=>by cases hb⟩,K5.out⟩
end Go.Proofs.YtajegiifabfcjaaGreatDoor
namespace Go.Proofs.YtajegiifabfcjaaGreatDoor
open Go.RowKit Go.Lib
structure Kp where
 d:Dk
 num:Int
 ep:Int
 s:St
def kText (n e:Int) (s:St):Bs:=107 :: 32 :: (itoa n ++ 32 :: (itoa e ++ 32 :: (itoa (stText s).length ++ 32 :: stText s)))
def kA (n e:Int) (s:St):ByteArray:=bsB ((kText n e s).take 64)
def kB (n e:Int) (s:St):ByteArray:=bsB ((kText n e s).drop 64)
def full0:ByteArray:=fullB ⟨#[]⟩
structure KNum (n e:Int) (s:St):Prop where
 n0:0≤n
 n1:n≤1000000000000000
 e0:1≤e
 e1:e≤1000000
 g:Good s
theorem KNum.len {n e:Int} {s:St} (h:KNum n e s):(kText n e s).length≤100:=by
 have h1:=itoa_len 15 n h.n0 (by have:=h.n1; omega)
 have h2:=itoa_len 6 e (by have:=h.e0; omega) (by have:=h.e1; omega)
 have h3:=h.g.text_len
 have h4:=itoa_len 1 ((stText s).length:Int) (by omega) (by omega)
 unfold kText
 simp only [List.length_cons,List.length_append]
 omega
theorem KNum.kA_size {n e:Int} {s:St}:(kA n e s).size≤64:=by unfold kA; rw [bsB_size,List.length_take]; omega
theorem KNum.kB_size {n e:Int} {s:St} (h:KNum n e s):(kB n e s).size≤64:=by have:=h.len; unfold kB; rw [bsB_size,List.length_drop]; omega
theorem zerosB_eq (n:Nat):zerosB n=bsB (List.replicate n 0):=by
 apply ByteArray.ext
 simp [zerosB,bsB,strOfNums]
theorem fullB_bs {l:Bs}:fullB (bsB l)=bsB (l ++ List.replicate (64 - l.length) 0):=by
 unfold fullB
 rw [zerosB_eq,bsB_size,bsB_append]
theorem two_sectors (t:Bs) (h:t.length≤128):fullB (bsB (t.take 64)) ++ fullB (bsB (t.drop 64))=bsB (t ++ List.replicate (128 - t.length) 0):=by
 rw [fullB_bs,fullB_bs,bsB_append]
 congr 1
 rw [List.length_take,List.length_drop]
 by_cases h1:t.length≤64
 ·rw [List.take_of_length_le h1,List.drop_of_length_le h1,List.nil_append,List.append_assoc,List.replicate_append_replicate]
  congr 2
  omega
 ·rw [show 64 - min 64 t.length=0 by omega,List.replicate_zero,List.append_nil,← List.append_assoc,List.take_append_drop]
  congr 2
  omega
theorem split4_kText (n e:Int) (s:St) (z:Bs):splitK [32] 0 4 (kText n e s ++ z)=[[107],itoa n,itoa e,itoa (stText s).length,stText s ++ z]:=by
 have e1:kText n e s ++ z=[107] ++ 32 :: (itoa n ++ 32 :: (itoa e ++ 32 :: (itoa (stText s).length ++ 32 :: (stText s ++ z)))):=by simp [kText]
 rw [e1,splitK_cons 32 3 _ _ (by decide),splitK_cons 32 2 _ _ (itoa_blank _),splitK_cons 32 1 _ _ (itoa_blank _),splitK_cons 32 0 _ _ (itoa_blank _)]
 rfl
theorem index_cons_ne (c b:UInt8) (l:Bs) (h:c≠b):index (b :: l) [c]=-1∨1≤index (b :: l) [c]:=by
 rw [index]
 have:([c]:Bs).isPrefixOf (b :: l)=false:=by simp [List.isPrefixOf,h]
 rw [this]
 have:=index_ge l [c]
 simp only [Bool.false_eq_true,if_false]
 split
 ·exact .inl rfl
 ·rename_i h2
  right
  simp only [beq_iff_eq] at h2
  omega
theorem split_zero (k:Nat) (r:Bs):∃ a l,splitK [32] 0 k (0 :: r)=(0 :: a) :: l:=by
 cases k with
 | zero=>exact ⟨r,[],rfl⟩
 | succ k =>
  unfold splitK
  rcases index_cons_ne 32 0 r (by decide) with h | h
  ·rw [h]; exact ⟨r,[],rfl⟩
  ·rw [if_neg (by simp; omega)]
   obtain ⟨m,hm⟩:∃ m:Nat,(index (0 :: r) [32]).toNat=m+1:=⟨(index (0 :: r) [32]).toNat - 1,by omega⟩
   rw [hm]
   exact ⟨_,_,rfl⟩
structure Place (now:List ByteArray) (p:Nat) (n e:Int) (s:St):Prop where
 a:now.getD (2*p) ⟨#[]⟩=fullB (kA n e s)
 b:now.getD (2*p+1) ⟨#[]⟩=fullB (kB n e s)
 k:KNum n e s
def Other (now:List ByteArray) (q:Nat) (m:Int):Prop:=now.getD (2*q) ⟨#[]⟩=full0∨∃ n e s,n<m∧Place now q n e s
def par (n:Int):Nat:=(n % 2).toNat
theorem par_lt (n:Int):par n<2:=by unfold par; omega
theorem par_next (n:Int):par (n+1)=1 - par n:=by unfold par; omega
structure KD (n:Nat) (d:Dk) (num ep:Int) (s:St):Prop where
 ok:d.ok n
 n6:6≤n
 up:d.down=false
 wait:d.wait=[]
 same:d.kept=d.now
 p1:1≤num
 place:Place d.now (par num) num ep s
 other:Other d.now (1 - par num) num
theorem getD_set_ne {l:List ByteArray} {i j:Nat} (h:i≠j) (x:ByteArray):(l.set i x).getD j ⟨#[]⟩=l.getD j ⟨#[]⟩:=by
 simp [List.getD_eq_getElem?_getD,List.getElem?_set_ne h]
theorem getD_set_eq {l:List ByteArray} {i:Nat} (h:i<l.length) (x:ByteArray):(l.set i x).getD i ⟨#[]⟩=x:=by
 simp [List.getD_eq_getElem?_getD,h]
theorem Place.set {now:List ByteArray} {p:Nat} {n e:Int} {s:St} (h:Place now p n e s) {i:Nat} (h1:i≠2*p) (h2:i≠2*p+1) (x:ByteArray):Place (now.set i x) p n e s :=
 ⟨by rw [getD_set_ne h1,h.a],by rw [getD_set_ne h2,h.b],h.k⟩
def layD (n:Nat) (d:Dk) (a:Nat) (A B:ByteArray):Dk × Bool :=
 let d1:=d.write n ((2*a:Nat):Int) ⟨#[]⟩
 if d.steps=false then (d1,false) else
 let d2:=d1.flush
 if d1.steps=false then (d2,false) else
 let d3:=d2.write n ((2*a+1:Nat):Int) B
 if d2.steps=false then (d3,false) else
 let d4:=d3.flush
 if d3.steps=false then (d4,false) else
 let d5:=d4.write n ((2*a:Nat):Int) A
 if d4.steps=false then (d5,false) else
 let d6:=d5.flush
 if d5.steps=false then (d6,false) else (d6,true)
def Kp.lay (n:Nat) (k:Kp) (ep:Int) (s:St):Kp × Int :=
 let r:=layD n k.d (par (k.num+1)) (kA (k.num+1) ep s) (kB (k.num+1) ep s)
 if r.2 then (⟨r.1,k.num+1,ep,s⟩,0) else ({ k with d:=r.1 },10)
def Kp.keep (n:Nat) (k:Kp) (ep:Int) (s:St):Kp × Int :=
 if ep<1∨1000000<ep then (k,1) else if stateFault s≠0 then (k,stateFault s) else k.lay n ep s
theorem Dk.write_steps {n:Nat} {d:Dk} {p:Nat} {s:ByteArray} (hp:p<n) (hs:s.size≤64) (h:d.steps=true):d.write n (p:Int) s={ d.step with now:=d.now.set p (fullB s),wait:=d.wait ++ [(p,fullB s)] }:=by
 unfold Dk.write
 rw [if_neg (by omega),if_pos h]
 rfl
theorem Dk.write_stops {n:Nat} {d:Dk} {p:Nat} {s:ByteArray} (hp:p<n) (hs:s.size≤64) (h:d.steps=false):d.write n (p:Int) s=d.step:=by
 unfold Dk.write
 rw [if_neg (by omega),if_neg (by simp [h])]
theorem Dk.flush_steps {d:Dk} (h:d.steps=true):d.flush={ d.step with kept:=d.now,wait:=[] }:=by unfold Dk.flush; rw [if_pos h]
theorem Dk.flush_stops {d:Dk} (h:d.steps=false):d.flush=d.step:=by unfold Dk.flush; rw [if_neg (by simp [h])]
theorem Dk.step_up {d:Dk} (h:d.steps=true):d.step.down=false:=by
 unfold Dk.steps at h
 simp only [Bool.and_eq_true,Bool.not_eq_true',decide_eq_true_eq] at h
 unfold Dk.step
 rw [h.1]
 simp [h.2]
theorem Dk.flush_ok' {n:Nat} {d:Dk} (h:d.ok n):d.flush.ok n:=by
 have k:=Dk.step_ok h
 unfold Dk.flush
 split
 ·exact ⟨k.n40,h.nl,by simpa [(Dk.step_lists d).2.1] using h.nl,(fun _ hr=>by cases hr),k.fu,k.fm⟩
 ·exact k
theorem restart_of {keep:Int} {d:Dk} (h:d.wait=[]):d.restart keep=⟨d.kept,d.kept,[],-1,false⟩:=by
 unfold Dk.restart
 rw [h]
 rfl
theorem restart_one {keep:Int} {d:Dk} {i:Nat} {x:ByteArray} (h:d.wait=[(i,x)]):d.restart keep=⟨d.kept,d.kept,[],-1,false⟩∨d.restart keep=⟨d.kept.set i x,d.kept.set i x,[],-1,false⟩:=by
 unfold Dk.restart
 rw [h]
 simp only [List.length_singleton,Dk.restTo,h]
 split
 ·right; simp
 ·left; rfl
def Fell (n:Nat) (d:Dk) (num ep:Int) (s:St) (ep':Int) (s':St):Prop :=
 d.ok n∧∀ keep,KD n (d.restart keep) num ep s∨KD n (d.restart keep) (num+1) ep' s'
section
variable {n:Nat} {d:Dk} {num ep:Int} {s:St}
theorem KD.kd_of (h:KD n d num ep s) {l:List ByteArray} (hl:l.length=n) (hp:Place l (par num) num ep s) (ho:Other l (1 - par num) num) {f:Int} (hf:-1≤f∧f≤9223372036854775807):KD n ⟨l,l,[],f,false⟩ num ep s :=
 ⟨⟨h.ok.n40,hl,hl,(fun _ hr=>by cases hr),hf.1,hf.2⟩,h.n6,rfl,rfl,rfl,h.p1,hp,ho⟩
theorem lay_law (h:KD n d num ep s) (hn:num<1000000000000000) {ep':Int} {s':St} (he:1≤ep'∧ep'≤1000000) (hs:Good s') :
  let r:=layD n d (par (num+1)) (kA (num+1) ep' s') (kB (num+1) ep' s')
  r.1.ok n∧(r.2=true→KD n r.1 (num+1) ep' s')∧(r.2=false→Fell n r.1 num ep s ep' s'):=by
 have hk:KNum (num+1) ep' s':=⟨by have:=h.p1; omega,by omega,he.1,he.2,hs⟩
 have hn6:=h.n6
 have hp2:=par_lt num
 have hpn:=par_next num
 obtain ⟨a,ha⟩:∃ a,a=par (num+1):=⟨_,rfl⟩
 have ha2:a=1 - par num:=by omega
 have hA:(kA (num+1) ep' s').size≤64:=KNum.kA_size
 have hB:=hk.kB_size
 have hE:(⟨#[]⟩:ByteArray).size≤64:=by decide
 obtain ⟨A,hAe⟩:∃ A,A=kA (num+1) ep' s':=⟨_,rfl⟩
 obtain ⟨B,hBe⟩:∃ B,B=kB (num+1) ep' s':=⟨_,rfl⟩
 rw [← ha,← hAe,← hBe]
 rw [← hAe] at hA
 rw [← hBe] at hB
 have nl:=h.ok.nl
 have l2a:2*a<n:=by omega
 have l2b:2*a+1<n:=by omega
 have n1:2*a≠2*par num:=by omega
 have n2:2*a≠2*par num+1:=by omega
 have n3:2*a+1≠2*par num:=by omega
 have n4:2*a+1≠2*par num+1:=by omega
 obtain ⟨N,hN⟩:∃ N,N=d.now:=⟨_,rfl⟩
 obtain ⟨N1,hN1⟩:∃ N1,N1=N.set (2*a) full0:=⟨_,rfl⟩
 obtain ⟨N2,hN2⟩:∃ N2,N2=N1.set (2*a+1) (fullB B):=⟨_,rfl⟩
 obtain ⟨N3,hN3⟩:∃ N3,N3=N2.set (2*a) (fullB A):=⟨_,rfl⟩
 have p0:Place N (par num) num ep s:=hN▸h.place
 have p1:Place N1 (par num) num ep s:=hN1▸p0.set n1 n2 _
 have p2:Place N2 (par num) num ep s:=hN2▸p1.set n3 n4 _
 have p3:Place N3 (par num) num ep s:=hN3▸p2.set n1 n2 _
 have ln:N.length=n:=hN▸nl
 have ln1:N1.length=n:=by rw [hN1,List.length_set,ln]
 have ln2:N2.length=n:=by rw [hN2,List.length_set,ln1]
 have ln3:N3.length=n:=by rw [hN3,List.length_set,ln2]
 have o0:Other N (1 - par num) num:=hN▸h.other
 have o1:Other N1 (1 - par num) num:=.inl (by rw [← ha2,hN1,getD_set_eq (by omega)])
 have o2:Other N2 (1 - par num) num:=.inl (by rw [← ha2,hN2,getD_set_ne (by omega),hN1,getD_set_eq (by omega)])
 have q3:Place N3 (par (num+1)) (num+1) ep' s':=by
  rw [← ha]
  refine ⟨?_,?_,hk⟩
  ·rw [hN3,getD_set_eq (by omega),hAe]
  ·rw [hN3,getD_set_ne (by omega),hN2,getD_set_eq (by omega),hBe]
 have o3:Other N3 (1 - par (num+1)) (num+1):=.inr ⟨num,ep,s,by omega,by rw [hpn,show 1 - (1 - par num)=par num by omega]; exact p3⟩
 have ok:=h.ok
 have w0:=h.wait
 have k0:d.kept=N:=h.same.trans hN.symm
 have fell:∀ {x:Dk},x.ok n→(∀ keep,KD n (x.restart keep) num ep s∨KD n (x.restart keep) (num+1) ep' s')→Fell n x num ep s ep' s':=fun a b=>⟨a,b⟩
 have mk:∀ {l:List ByteArray},l.length=n→Place l (par num) num ep s→Other l (1 - par num) num→KD n ⟨l,l,[],-1,false⟩ num ep s:=fun a b c=>h.kd_of a b c (by omega)
 unfold layD
 dsimp only
 have ok1:=Dk.write_ok ok ((2*a:Nat):Int) ⟨#[]⟩
 by_cases s0:d.steps=false
 ·rw [if_pos s0]
  refine ⟨ok1,fun e=>(by cases e),fun _=>fell ok1 fun keep=>.inl ?_⟩
  rw [Dk.write_stops l2a hE s0]
  have hl:=Dk.step_lists d
  rw [restart_of (hl.2.2.trans w0),hl.1,k0]
  exact mk ln p0 o0
 rw [if_neg s0]
 have s0':d.steps=true:=by simpa using s0
 obtain ⟨d1,hd1⟩:∃ d1,d1=d.write n ((2*a:Nat):Int) ⟨#[]⟩:=⟨_,rfl⟩
 rw [← hd1] at ok1 ⊢
 have f1:d1.now=N1∧d1.kept=N∧d1.wait=[(2*a,full0)]:=by
  rw [hd1,Dk.write_steps l2a hE s0']
  refine ⟨by rw [hN1,hN]; rfl,by show d.step.kept=_; rw [(Dk.step_lists d).1,k0],by show d.wait ++ _=_; rw [w0]; rfl⟩
 clear hd1
 have ok2:=Dk.flush_ok' ok1
 by_cases s1:d1.steps=false
 ·rw [if_pos s1]
  refine ⟨ok2,fun e=>(by cases e),fun _=>fell ok2 fun keep=>.inl ?_⟩
  have hl:=Dk.step_lists d1
  rw [Dk.flush_stops s1]
  rcases restart_one (keep:=keep) (hl.2.2.trans f1.2.2) with e | e
  ·rw [e,hl.1,f1.2.1]; exact mk ln p0 o0
  ·rw [e,hl.1,f1.2.1,← hN1]; exact mk ln1 p1 o1
 rw [if_neg s1]
 have s1':d1.steps=true:=by simpa using s1
 obtain ⟨d2,hd2⟩:∃ d2,d2=d1.flush:=⟨_,rfl⟩
 rw [← hd2] at ok2 ⊢
 have f2:d2.now=N1∧d2.kept=N1∧d2.wait=[]:=by
  rw [hd2,Dk.flush_steps s1']
  exact ⟨by show d1.step.now=_; rw [(Dk.step_lists d1).2.1,f1.1],f1.1,rfl⟩
 clear hd2 f1
 have ok3:=Dk.write_ok ok2 ((2*a+1:Nat):Int) B
 by_cases s2:d2.steps=false
 ·rw [if_pos s2]
  refine ⟨ok3,fun e=>(by cases e),fun _=>fell ok3 fun keep=>.inl ?_⟩
  rw [Dk.write_stops l2b hB s2]
  have hl:=Dk.step_lists d2
  rw [restart_of (hl.2.2.trans f2.2.2),hl.1,f2.2.1]
  exact mk ln1 p1 o1
 rw [if_neg s2]
 have s2':d2.steps=true:=by simpa using s2
 obtain ⟨d3,hd3⟩:∃ d3,d3=d2.write n ((2*a+1:Nat):Int) B:=⟨_,rfl⟩
 rw [← hd3] at ok3 ⊢
 have f3:d3.now=N2∧d3.kept=N1∧d3.wait=[(2*a+1,fullB B)]:=by
  rw [hd3,Dk.write_steps l2b hB s2']
  refine ⟨by rw [hN2,← f2.1],by show d2.step.kept=_; rw [(Dk.step_lists d2).1,f2.2.1],by show d2.wait ++ _=_; rw [f2.2.2]; rfl⟩
 clear hd3 f2
 have ok4:=Dk.flush_ok' ok3
 by_cases s3:d3.steps=false
 ·rw [if_pos s3]
  refine ⟨ok4,fun e=>(by cases e),fun _=>fell ok4 fun keep=>.inl ?_⟩
  have hl:=Dk.step_lists d3
  rw [Dk.flush_stops s3]
  rcases restart_one (keep:=keep) (hl.2.2.trans f3.2.2) with e | e
  ·rw [e,hl.1,f3.2.1]; exact mk ln1 p1 o1
  ·rw [e,hl.1,f3.2.1,← hN2]; exact mk ln2 p2 o2
 rw [if_neg s3]
 have s3':d3.steps=true:=by simpa using s3
 obtain ⟨d4,hd4⟩:∃ d4,d4=d3.flush:=⟨_,rfl⟩
 rw [← hd4] at ok4 ⊢
 have f4:d4.now=N2∧d4.kept=N2∧d4.wait=[]:=by
  rw [hd4,Dk.flush_steps s3']
  exact ⟨by show d3.step.now=_; rw [(Dk.step_lists d3).2.1,f3.1],f3.1,rfl⟩
 clear hd4 f3
 have ok5:=Dk.write_ok ok4 ((2*a:Nat):Int) A
 by_cases s4:d4.steps=false
 ·rw [if_pos s4]
  refine ⟨ok5,fun e=>(by cases e),fun _=>fell ok5 fun keep=>.inl ?_⟩
  rw [Dk.write_stops l2a hA s4]
  have hl:=Dk.step_lists d4
  rw [restart_of (hl.2.2.trans f4.2.2),hl.1,f4.2.1]
  exact mk ln2 p2 o2
 rw [if_neg s4]
 have s4':d4.steps=true:=by simpa using s4
 obtain ⟨d5,hd5⟩:∃ d5,d5=d4.write n ((2*a:Nat):Int) A:=⟨_,rfl⟩
 rw [← hd5] at ok5 ⊢
 have f5:d5.now=N3∧d5.kept=N2∧d5.wait=[(2*a,fullB A)]:=by
  rw [hd5,Dk.write_steps l2a hA s4']
  refine ⟨by rw [hN3,← f4.1],by show d4.step.kept=_; rw [(Dk.step_lists d4).1,f4.2.1],by show d4.wait ++ _=_; rw [f4.2.2]; rfl⟩
 clear hd5 f4
 have ok6:=Dk.flush_ok' ok5
 have new:∀ {f:Int},-1≤f∧f≤9223372036854775807→KD n ⟨N3,N3,[],f,false⟩ (num+1) ep' s':=fun {f} hf =>
  ⟨⟨ok.n40,ln3,ln3,(fun _ hr=>by cases hr),hf.1,hf.2⟩,hn6,rfl,rfl,rfl,by have:=h.p1; omega,q3,o3⟩
 by_cases s5:d5.steps=false
 ·rw [if_pos s5]
  refine ⟨ok6,fun e=>(by cases e),fun _=>fell ok6 fun keep=>?_⟩
  have hl:=Dk.step_lists d5
  rw [Dk.flush_stops s5]
  rcases restart_one (keep:=keep) (hl.2.2.trans f5.2.2) with e | e
  ·left; rw [e,hl.1,f5.2.1]; exact mk ln2 p2 o2
  ·right; rw [e,hl.1,f5.2.1,← hN3]; exact new (by omega)
 rw [if_neg s5]
 have s5':d5.steps=true:=by simpa using s5
 refine ⟨ok6,fun _=>?_,fun e=>(by cases e)⟩
 have e:d5.flush=⟨N3,N3,[],d5.step.fuse,false⟩:=by
  rw [Dk.flush_steps s5',← f5.1,← Dk.step_up s5',← (Dk.step_lists d5).2.1]
 rw [e]
 exact new ⟨(Dk.step_ok ok5).fu,(Dk.step_ok ok5).fm⟩
end
theorem Dk.step_fuse {d:Dk} (h:d.fuse=-1):d.step.fuse=-1:=by
 unfold Dk.step
 split
 ·exact h
 ·split
  ·rfl
  ·dsimp only; rw [if_neg (by omega)]
theorem Dk.write_fuse {n:Nat} {d:Dk} (h:d.fuse=-1) (p:Int) (s:ByteArray):(d.write n p s).fuse=-1:=by
 unfold Dk.write
 split
 ·exact h
 ·split
  ·exact Dk.step_fuse h
  ·exact Dk.step_fuse h
theorem Dk.flush_fuse {d:Dk} (h:d.fuse=-1):d.flush.fuse=-1:=by
 unfold Dk.flush
 split
 ·exact Dk.step_fuse h
 ·exact Dk.step_fuse h
theorem Dk.steps_of {d:Dk} (h:d.fuse=-1) (hd:d.down=false):d.steps=true:=by unfold Dk.steps; rw [h,hd]; rfl
theorem Dk.step_down {d:Dk} (h:d.fuse=-1) (hd:d.down=false):d.step.down=false:=Dk.step_up (Dk.steps_of h hd)
theorem Dk.write_down {n:Nat} {d:Dk} (h:d.fuse=-1) (hd:d.down=false) (p:Int) (s:ByteArray):(d.write n p s).down=false:=by
 unfold Dk.write
 split
 ·exact hd
 ·split
  ·exact Dk.step_down h hd
  ·exact Dk.step_down h hd
theorem Dk.flush_down {d:Dk} (h:d.fuse=-1) (hd:d.down=false):d.flush.down=false:=by
 unfold Dk.flush
 split
 ·exact Dk.step_down h hd
 ·exact Dk.step_down h hd
theorem layD_live {n:Nat} {d:Dk} (h:d.fuse=-1) (hd:d.down=false) (a:Nat) (A B:ByteArray):(layD n d a A B).2=true∧(layD n d a A B).1.fuse=-1:=by
 have st:∀ {x:Dk},x.fuse=-1∧x.down=false→¬ (x.steps=false):=fun hx e=>by rw [Dk.steps_of hx.1 hx.2] at e; cases e
 have w:∀ {x:Dk} (p:Int) (s:ByteArray),x.fuse=-1∧x.down=false→(x.write n p s).fuse=-1∧(x.write n p s).down=false:=fun p s hx=>⟨Dk.write_fuse hx.1 p s,Dk.write_down hx.1 hx.2 p s⟩
 have f:∀ {x:Dk},x.fuse=-1∧x.down=false→x.flush.fuse=-1∧x.flush.down=false:=fun hx=>⟨Dk.flush_fuse hx.1,Dk.flush_down hx.1 hx.2⟩
 have h0:d.fuse=-1∧d.down=false:=⟨h,hd⟩
 unfold layD
 dsimp only
 rw [if_neg (st h0),if_neg (st (w _ _ h0)),if_neg (st (f (w _ _ h0))),if_neg (st (w _ _ (f (w _ _ h0)))),if_neg (st (f (w _ _ (f (w _ _ h0))))),if_neg (st (w _ _ (f (w _ _ (f (w _ _ h0))))))]
 exact ⟨rfl,(f (w _ _ (f (w _ _ (f (w _ _ h0)))))).1⟩
end Go.Proofs.YtajegiifabfcjaaGreatDoor
namespace Go.Proofs.YtajegiifabfcjaaGreatDoor
open Go.RowKit
structure Cel where
 e:Int
 n:Int
 d:ByteArray
deriving DecidableEq
abbrev Cel.v (c:Cel):Value:=.agg #[.int .i64 c.e,.int .i64 c.n,.string c.d]
def Cel.vs (c:Cel):List Value:=[.int .i64 c.e,.int .i64 c.n,.string c.d]
def Cel.zero:Cel:=⟨0,0,ByteArray.empty⟩
def newerB (a b:Cel):Bool:=decide (b.e<a.e∨(a.e=b.e∧b.n<a.n))
def flat (l:List Cel):List Value:=l.flatMap Cel.vs
theorem flat_length (l:List Cel):(flat l).length=l.length*3:=by
 induction l with
 | nil=>rfl
 | cons c l ih=>simp [flat,Cel.vs] at ih ⊢; omega
theorem flat_at:∀ (l:List Cel) (k:Nat) (h:k<l.length),(flat l)[k*3]?=some (.int .i64 l[k].e)∧(flat l)[k*3+1]?=some (.int .i64 l[k].n)∧(flat l)[k*3+2]?=some (.string l[k].d)
 | c :: l,0,_=>by simp [flat,Cel.vs]
 | c :: l,k+1,h=>by
  have:=flat_at l k (by simpa using h)
  have e:flat (c :: l)=.int .i64 c.e :: .int .i64 c.n :: .string c.d :: flat l:=rfl
  rw [e,show (k+1)*3=k*3+1+1+1 from by omega]
  simpa using this
theorem flat_one (l:List Cel):∀ v∈flat l,v.oneCell'=true:=by
 intro v hv
 simp only [flat,List.mem_flatMap,Cel.vs,List.mem_cons,List.mem_nil_iff,or_false] at hv
 obtain ⟨r,_,h | h | h⟩:=hv <;> subst h <;> rfl
theorem flat_set:∀ (l:List Cel) (k:Nat) (c:Cel),k<l.length→(((flat l).set (k*3) (.int .i64 c.e)).set (k*3+1) (.int .i64 c.n)).set (k*3+2) (.string c.d)=flat (l.set k c)
 | x :: l,0,c,_=>by simp [flat,Cel.vs]
 | x :: l,k+1,c,h=>by
  have:=flat_set l k c (by simpa using h)
  have e:flat (x :: l)=.int .i64 x.e :: .int .i64 x.n :: .string x.d :: flat l:=rfl
  have e2:flat ((x :: l).set (k+1) c)=.int .i64 x.e :: .int .i64 x.n :: .string x.d :: flat (l.set k c):=rfl
  rw [e,e2,show (k+1)*3=k*3+1+1+1 from by omega,← this]
  rfl
theorem fields_cell:Tryz.prog.underlying 30=some (.struct (Tryz.prog.fieldsOf 30))∧Tryz.prog.stoodInHeld 30=false:=by
 constructor <;> kernel_rfl
theorem fields_cell_list : ((Tryz.prog.fieldsOf 30).toList.map fun f => (f.name, f.type, f.offset)) = [("Epoch", 3, 0), ("Number", 3, 1), ("Data", 9, 2)] := by kernel_rfl
theorem plain_int:Tryz.prog.plainKey 3=true∧Tryz.prog.plainKey 9=true:=by constructor <;> kernel_rfl
theorem eq_fields (d : Nat) (xs ys : Array Value) (w : World) : ∀ (fs : List Field), (∀ f ∈ fs, f.name ≠ "_") → ∀ (b : Field → Bool),
  (∀ f∈fs,∃ x y,(part f.type xs f.offset).run Tryz.prog w=.ok x w∧(part f.type ys f.offset).run Tryz.prog w=.ok y w∧(Op.equalIn d f.type x y).run Tryz.prog w=.ok (b f) w) →
  (Op.eqFields d xs ys fs).run Tryz.prog w=.ok (fs.all b) w
 | [],_,b,_=>by simp [Op.eqFields]
 | f :: fs,hn,b,h=>by
  obtain ⟨x,y,h1,h2,h3⟩:=h f (by simp)
  have ih:=eq_fields d xs ys w fs (fun g hg=>hn g (by simp [hg])) b (fun g hg=>h g (by simp [hg]))
  unfold Op.eqFields
  rw [if_pos (hn f (by simp))]
  simp only [Sem.run_bind,h1,h2,h3,Result.andThen_ok,Sem.run_ite]
  cases hb:b f
  ·simp [hb]
  ·simp [hb,ih]
theorem eq_struct (d:Nat) (T:TypeId) (xs ys:Array Value) (w:World) (ht:Tryz.prog.underlying T=some (.struct (Tryz.prog.fieldsOf T))) (hp:Tryz.prog.stoodInHeld T=false)
  (spec:List (String × TypeId × Nat)) (hs:((Tryz.prog.fieldsOf T).toList.map fun f=>(f.name,f.type,f.offset))=spec) (b:Nat→Bool)
  (h : ∀ s ∈ spec, s.1 ≠ "_" ∧ ∃ x y, (part s.2.1 xs s.2.2).run Tryz.prog w = .ok x w ∧ (part s.2.1 ys s.2.2).run Tryz.prog w = .ok y w ∧ (Op.equalIn d s.2.1 x y).run Tryz.prog w = .ok (b s.2.2) w) :
  (Op.equalIn (d+1) T (.agg xs) (.agg ys)).run Tryz.prog w=.ok (spec.all fun s=>b s.2.2) w:=by
 rw [run_equalIn_struct w d T xs ys ht hp,eq_fields d xs ys w _ ?_ (fun f=>b f.offset) ?_]
 ·rw [← hs,List.all_map]; rfl
 ·intro f hf
  exact (h (f.name,f.type,f.offset) (hs▸List.mem_map_of_mem (f:=fun f:Field=>(f.name,f.type,f.offset)) hf)).1
 ·intro f hf
  exact (h (f.name,f.type,f.offset) (hs▸List.mem_map_of_mem (f:=fun f:Field=>(f.name,f.type,f.offset)) hf)).2
theorem under_int:Tryz.prog.underlying 3=some (.int .i64)∧Tryz.prog.underlying 9=some .string:=by constructor <;> kernel_rfl
theorem ba_beq (a b:ByteArray):(a.toList == b.toList)=decide (a=b):=by
 rw [Bool.eq_iff_iff,beq_iff_eq,decide_eq_true_eq,ByteArray.toList_eq,ByteArray.toList_eq]
 constructor
 ·intro h; cases a with | mk a=>cases b with | mk b=>simp at h; rw [h]
 ·rintro rfl; rfl
theorem eq_cell (d:Nat) (a b:Cel) (w:World):(Op.equalIn (d+2) 30 a.v b.v).run Tryz.prog w=.ok (decide (a=b)) w:=by
 have:=eq_struct (d+1) 30 #[.int .i64 a.e,.int .i64 a.n,.string a.d] #[.int .i64 b.e,.int .i64 b.n,.string b.d] w fields_cell.1 fields_cell.2 _ fields_cell_list
  (fun o=>if o=0 then a.e == b.e else if o=1 then a.n == b.n else a.d.toList == b.d.toList) ?_
 ·rw [this]
  refine congrArg (fun b=>Result.ok b w) ?_
  rw [Bool.eq_iff_iff]
  simp [ba_beq]
  constructor
  ·rintro ⟨h1,h2,h3⟩; cases a; cases b; simp_all
  ·rintro rfl; exact ⟨rfl,rfl,rfl⟩
 ·intro s hs
  simp only [List.mem_cons,List.mem_nil_iff,or_false] at hs
  rcases hs with rfl | rfl | rfl
  ·exact ⟨by decide,_,_,run_part_plain w plain_int.1 rfl,run_part_plain w plain_int.1 rfl,run_equalIn_int w d _ _ _ _ _ under_int.1⟩
  ·exact ⟨by decide,_,_,run_part_plain w plain_int.1 rfl,run_part_plain w plain_int.1 rfl,run_equalIn_int w d _ _ _ _ _ under_int.1⟩
  ·exact ⟨by decide,_,_,run_part_plain w plain_int.2 rfl,run_part_plain w plain_int.2 rfl,run_equalIn_string w d _ _ _ under_int.2⟩
theorem part_agg {P:Program} {T:TypeId} {cs:Array Value} {off n:Nat} {d:TypeDesc} (w:World) (hu:P.underlying T=some d) (hd:d.isRow=true) (hi:(P.info? T).map (·.size)=some n) :
  (part T cs off).run P w=.ok (.agg (cs.extract off (off+n))) w:=by
 have hagg:(isAgg T).run P w=.ok true w:=by
  unfold isAgg
  rw [Sem.run_bind,run_underlying hu w]
  cases d <;> simp_all
 cases hq:P.info? T with
 | none=>simp [hq] at hi
 | some i =>
  have hs:i.size=n:=by simpa [hq] using hi
  unfold part
  simp [Sem.run_bind,hagg,sizeOf,typeInfo,hq,hs]
theorem flat_extract:∀ (l:List Cel) (i:Nat) (h:i<l.length),((flat l).drop (i*3)).take 3=l[i].vs
 | c :: l,0,_=>by simp [flat,Cel.vs]
 | c :: l,i+1,h=>by
  have:=flat_extract l i (by simpa using h)
  have e:flat (c :: l)=.int .i64 c.e :: .int .i64 c.n :: .string c.d :: flat l:=rfl
  rw [e,show (i+1)*3=i*3+1+1+1 from by omega]
  simpa using this
theorem flat_part {l:List Cel} {i:Nat} (h:i<l.length):(flat l).toArray.extract (i*3) (i*3+3)=#[.int .i64 l[i].e,.int .i64 l[i].n,.string l[i].d]:=by
 apply Array.toList_inj.1
 simp only [Array.toList_extract,List.extract_eq_take_drop]
 rw [show i*3+3 - i*3=3 from by omega]
 exact flat_extract l i h
theorem cell_row:Tryz.prog.underlying 30=some (.struct (Tryz.prog.fieldsOf 30))∧(Tryz.prog.info? 30).map (·.size)=some 3:=by constructor <;> kernel_rfl
theorem cells_row:Tryz.prog.underlying 54=some (.array 8 30)∧(Tryz.prog.info? 54).map (·.size)=some 24:=by constructor <;> kernel_rfl
theorem rp_row:Tryz.prog.underlying 56=some (.struct (Tryz.prog.fieldsOf 56))∧(Tryz.prog.info? 56).map (·.size)=some 25∧Tryz.prog.stoodInHeld 56=false ∧
  ((Tryz.prog.fieldsOf 56).toList.map fun f => (f.name, f.type, f.offset)) = [("Floor", 3, 0), ("Cells", 54, 1)] := by
 refine ⟨?_,?_,?_,?_⟩ <;> kernel_rfl
structure Rp where
 floor:Int
 cells:List Cel
def Rp.arr (r:Rp):Array Value:=(.int .i64 r.floor :: flat r.cells).toArray
def Rp.zero:Rp:=⟨0,List.replicate 8 Cel.zero⟩
theorem Rp.size {r:Rp} (h:r.cells.length=8):r.arr.size=25:=by
 unfold Rp.arr; simp [flat_length,h]
theorem Rp.one (r:Rp):r.arr.all (·.oneCell')=true:=by
 unfold Rp.arr
 apply all_oneCell_toArray
 intro v hv
 rcases List.mem_cons.1 hv with rfl | h
 ·rfl
 ·exact flat_one _ v h
theorem Rp.at0 (r:Rp):r.arr[0]?=some (.int .i64 r.floor):=by simp [Rp.arr]
theorem Rp.at (r:Rp) {k:Nat} (h:k<r.cells.length):r.arr[1+k*3]?=some (.int .i64 r.cells[k].e)∧r.arr[1+k*3+1]?=some (.int .i64 r.cells[k].n)∧r.arr[1+k*3+2]?=some (.string r.cells[k].d):=by
 obtain ⟨h1,h2,h3⟩:=flat_at r.cells k h
 unfold Rp.arr
 rw [show 1+k*3=k*3+1 from by omega,show k*3+1+2=k*3+2+1 from by omega]
 refine ⟨?_,?_,?_⟩ <;> simpa
theorem Rp.set (r:Rp) {k:Nat} (c:Cel) (h:k<r.cells.length) :
  ((r.arr.setIfInBounds (1+k*3) (.int .i64 c.e)).setIfInBounds (1+k*3+1) (.int .i64 c.n)).setIfInBounds (1+k*3+2) (.string c.d)=(Rp.mk r.floor (r.cells.set k c)).arr:=by
 unfold Rp.arr
 apply Array.toList_inj.1
 simp only [Array.toList_setIfInBounds]
 rw [show 1+k*3=k*3+1 from by omega,show k*3+1+2=k*3+2+1 from by omega,List.set_cons_succ,List.set_cons_succ,List.set_cons_succ,flat_set r.cells k c h]
theorem Rp.setFloor (r:Rp) (f:Int):r.arr.setIfInBounds 0 (.int .i64 f)=(Rp.mk f r.cells).arr:=by simp [Rp.arr]
theorem clone_reg (l:List (Int × Int)) (a:Option Addr) (cap:Nat) (w:World) (hl:l.length*16≤140737488355328) (hr:Pairs w.heap.size w a l) :
  Calls Tryz.prog 172 #[.slice a l.length cap] w fun e w'=>∃ v,e=.returned v∧OwnP w.heap.size w' v l∧Below w.heap.size w w':=by
 have hq:=fun w=>Lib.run_eql_slice_nil (P:=Tryz.prog) w 33 118 a l.length cap 0 0 Tryz.underlying33
 obtain ⟨i0,hi,hz0,hz1,hz2⟩:=info_parts Tryz.infoReg
 cases a with
 | none =>
  have hz:l=[]:=by
   cases l with
   | nil=>rfl
   | cons r l=>obtain ⟨b,o,e,_⟩:=hr 0 (by simp); cases e
  subst hz
  simp only [List.length_nil,Option.isNone_none] at hq ⊢
  clear hi hz0 hz1 hz2 hr hl
  go_enter Tryz.func172,Tryz.ntmps172
  go_wp2
  go_ret
  exact ⟨_,rfl,⟨rfl,.inl ⟨rfl,rfl⟩⟩,Below.refl _ _⟩
 | some ad =>
  have hcase:l=[]∨∃ b o,ad=⟨b,o,none⟩∧b<w.heap.size:=by
   cases l with
   | nil=>exact .inl rfl
   | cons r l=>obtain ⟨b,o,e,hb,_⟩:=hr 0 (by simp); exact .inr ⟨b,o,by simpa using e,hb⟩
  have hnews:∀ j u,(pcells l)[j]?=some u→(w.alloc (.cells #[] 118)).cell? (ad.add j)=some u:=by
   rcases hcase with rfl | ⟨b,o,rfl,hb⟩
   ·intro j u h; simp [pcells] at h
   ·exact pairs_cells (hr.below (bal w _) (Nat.le_refl _))
  have hown:(w.alloc (.cells #[] 118)).ownsRow w.heap.size 118 2 (.slice (some ⟨w.heap.size,0,none⟩) 0 0) 0 [] :=
   ⟨rfl,.inr ⟨w.heap.size,0,#[],rfl,Nat.le_refl _,heap_alloc_new _ _,Nat.le_refl _,by simp [maxLen],rfl,rfl⟩⟩
  go_enter Tryz.func172,Tryz.ntmps172
  go_wp2_with (at_builtin; refine wpList_append_own _ rfl _ _ 33 rfl w.heap.size 118 i0 (.agg #[.int .i64 0,.int .i64 0]) 2 16 Tryz.underlying33 hi hz0 hz1 hz2 rfl (by decide) _ _ _ rfl hown ad l.length cap (pcells l) rfl (pcells_length l) hnews (pcells_one l) ?c3 ?c4 ?c5 ?_)
  case c3=>unfold maxLen; omega
  case c4=>omega
  case c5=>simp
  intro v' w1 hown1 hg1 _
  go_wp2
  go_ret
  refine ⟨_,rfl,?_,?_⟩
  ·simpa [OwnP] using hown1
  ·exact (bal w _).grown hg1 (by simp) (fun k hk=>by simp [Value.ownBlock] at hk; omega)
end Go.Proofs.YtajegiifabfcjaaGreatDoor
