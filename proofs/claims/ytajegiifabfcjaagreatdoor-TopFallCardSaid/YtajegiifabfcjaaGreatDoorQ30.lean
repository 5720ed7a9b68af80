/-
  Contracts of a target's methods: busy, refuse.
-/
import Derived.Test.YtajegiifabfcjaaGreatDoorQ29
import Derived.BigQuiet
import Derived.Lib.QuietBelow
import Derived.Deep.DeepCutAuto
namespace Go.Proofs.YtajegiifabfcjaaGreatDoor
open Go.RowKit Go.Sort
structure Bz (T K:Nat) (ep at':Int) (pa pt:Nat) (w:World):Prop where
 ca:w.cell? ⟨pa,0,none⟩=some (.int .i64 at')
 ct:w.cell? ⟨pt,0,none⟩=some (.pointer (some ⟨T,0,none⟩))
 ck:w.cell? ⟨T,0,none⟩=some (.pointer (some ⟨K,0,none⟩))
 ep':∀ w',Below w.heap.size w w'→Calls Tryz.prog 62 #[.pointer (some ⟨K,0,none⟩)] w' fun e w''=>e=.returned (.int .i64 ep)∧w''=w'
theorem Bz.over {T K:Nat} {ep at':Int} {pa pt:Nat} {w w':World} (h:Bz T K ep at' pa pt w) (b:Below w.heap.size w w'):Bz T K ep at' pa pt w' :=
 ⟨(b.cell (p:=⟨pa,0,none⟩) (block_lt_of_cell h.ca)).trans h.ca,(b.cell (p:=⟨pt,0,none⟩) (block_lt_of_cell h.ct)).trans h.ct,(b.cell (p:=⟨T,0,none⟩) (block_lt_of_cell h.ck)).trans h.ck,fun x bx=>h.ep' x (b.trans (bx.mono b.size))⟩
def busyM (m:Ms) (ep at':Int):Bool:=decide (m.at'=at') && decide (m.c.e=ep)
set_option maxRecDepth 100000 in
set_option maxHeartbeats 4000000 in
theorem busy1_any (T K:Nat) (ep at':Int) (pa pt:Nat) (m:Ms) (w:World) (h:Bz T K ep at' pa pt w) :
  Calls Tryz.prog 101 #[.agg #[.int .i64 m.tt,.int .i64 m.at',.int .i64 m.c.e,.int .i64 m.c.n,.string m.c.d,.int .i64 m.tag],.pointer (some ⟨pa,0,none⟩),.pointer (some ⟨pt,0,none⟩)] w fun e w'=>e=.returned (.bool (busyM m ep at'))∧Below w.heap.size w w':=by
 obtain ⟨D,hD⟩:∃ D,busyM m ep at'=D:=⟨_,rfl⟩
 rw [hD]
 have HD:=Lib.hid hD
 clear hD
 obtain ⟨w1,hw1⟩:∃ w1,w1=w.alloc (.cells #[.int .i64 m.tt,.int .i64 m.at',.int .i64 m.c.e,.int .i64 m.c.n,.string m.c.d,.int .i64 m.tag] 125):=⟨_,rfl⟩
 have B1:=Lib.hid (show RowKit.Below w.heap.size w w1 from hw1▸bal w _)
 have R1:=Lib.hid (show w1.heap[w.heap.size]?=some (.cells #[.int .i64 m.tt,.int .i64 m.at',.int .i64 m.c.e,.int .i64 m.c.n,.string m.c.d,.int .i64 m.tag] 125 (0,0)) from hw1▸heap_alloc_new w _)
 have H1:=Lib.hid (h.over B1.out)
 have hlt:w.heap.size<w1.heap.size:=(Array.getElem?_eq_some_iff.1 R1.out).1
 go_enter Tryz.func101,Tryz.ntmps101
 go_upto_region 1 with fail
 rw [← hw1]
 clear h hw1
 have c0:w1.cell? ⟨w.heap.size,1,none⟩=some (.int .i64 m.at'):=by simp [World.cell?,R1.out]
 have c1:w1.cell? ⟨w.heap.size,2,none⟩=some (.int .i64 m.c.e):=by simp [World.cell?,R1.out]
 obtain ⟨ca,ct,ck,-⟩:=H1.out
 have la:=block_lt_of_cell ca
 have lt:=block_lt_of_cell ct
 have lk:=block_lt_of_cell ck
 have hq:=bregrown (Below.refl w1.heap.size w1)
 have EP:=Lib.hid (fun x (bx:RowKit.Below w1.heap.size w1 x)=>(H1.out.ep' x bx).mono (fun (e:Ending) (w':World) (q:e=.returned (.int .i64 ep)∧w'=x)=>(⟨q.1,q.2▸Below.refl _ _⟩:e=.returned (.int .i64 ep)∧RowKit.Below x.heap.size x w')))
 by_cases h1:m.at'=at'
 ·have h1b:(m.at' == at')=true:=by simp [h1]
  have PD:=Lib.hid (show (m.c.e == ep)=D from by rw [← HD.out,Bool.eq_iff_iff]; simp [busyM,h1])
  clear h1
  refine wp_region_quiet_below (by kernel_rfl) (by kernel_rfl) ?_
  repeat (go_big_quiet_step (exact Calls.regrown_of (EP.out _ (below_regrown w1 _ _))))
  refine wpQuiet_nil ?_
  rintro w' ⟨⟨dq,osq⟩,rfl⟩
  go_wp2
  go_ret
  exact ⟨by rw [PD.out]; rfl,B1.out.trans ((below_regrown _ dq osq).mono B1.out.size)⟩
 ·have h1b:(m.at' == at')=false:=by simp [h1]
  have PD:=Lib.hid (show false=D from by rw [← HD.out]; simp [busyM,h1])
  clear h1
  refine wp_region_quiet_below (by kernel_rfl) (by kernel_rfl) ?_
  repeat (go_big_quiet_step (exact Calls.regrown_of (EP.out _ (below_regrown w1 _ _))))
  refine wpQuiet_nil ?_
  rintro w' ⟨⟨dq,osq⟩,rfl⟩
  go_wp2
  go_ret
  exact ⟨by rw [PD.out]; rfl,B1.out.trans ((below_regrown _ dq osq).mono B1.out.size)⟩
theorem msg_at {l:List Ms} {k:Nat} (hk:k<l.length):∀ j,j<6→(flyL l)[k*6+j]?=l[k].row[j]?:=by
 intro j hj
 have e1:(flyL l).drop (k*6)=l[k].row ++ flyL (l.drop (k+1)):=by
  rw [flyL_drop,List.drop_eq_getElem_cons hk]
  rfl
 rw [← List.getElem?_drop,e1,List.getElem?_append_left (by simpa [Ms.row] using hj)]
set_option maxRecDepth 100000 in
set_option maxHeartbeats 4000000 in
theorem index_msg (T K:Nat) (ep at':Int) (pa pt B:Nat) (l:List Ms) (a:Option Addr) (cap:Nat) (w:World) (h:Bz T K ep at' pa pt w) (hl:l.length≤1000) (hr:OwnM B w (.slice a l.length cap) l) :
  Calls Tryz.prog 126 #[.slice a l.length cap,.func (.func 101) #[] #[.pointer (some ⟨pa,0,none⟩),.pointer (some ⟨pt,0,none⟩)]] w fun e w'=>(∃ i:Int,e=.returned (.int .i64 i)∧(0≤i ↔ (l.any fun m=>busyM m ep at')=true))∧Below w.heap.size w w':=by
 have HH:=Lib.hid h
 have HR:=Lib.hid hr
 clear h hr
 go_enter Tryz.func126,Tryz.ntmps126
 go_wp2
 go_loopw [8] (fun i wr=>∃ k:Nat,k≤l.length∧i=.int .i64 k∧(∀ j (_:j<k) (hj:j<l.length),busyM l[j] ep at'=false)∧Below w.heap.size w wr) (fun i _=>l.length - (intOf i).toNat)
 case atStart=>exact ⟨0,by omega,rfl,fun j h=>absurd h (by omega),Below.refl _ _⟩
 case round =>
  obtain ⟨k,hk,rfl,hK,hbw⟩:=hrel
  have HK:=Lib.hid hK; clear hK
  have hs:=hbw.size
  by_cases hlt:k<l.length
  ·have cells:∃ g,a=some ⟨g,0,none⟩∧(wr.cell? ⟨g,k*6,none⟩=some (.int .i64 l[k].tt)∧wr.cell? ⟨g,k*6+1,none⟩=some (.int .i64 l[k].at')∧wr.cell? ⟨g,k*6+2,none⟩=some (.int .i64 l[k].c.e)∧wr.cell? ⟨g,k*6+3,none⟩=some (.int .i64 l[k].c.n)∧wr.cell? ⟨g,k*6+4,none⟩=some (.string l[k].c.d)∧wr.cell? ⟨g,k*6+5,none⟩=some (.int .i64 l[k].tag)):=by
    have hr:=HR.out
    obtain ⟨-,h2 | ⟨g,cap',cur,e1,e2,e3,-⟩⟩:=id hr
    ·exact absurd h2.2 (by omega)
    obtain ⟨rfl,rfl⟩:a=some ⟨g,0,none⟩∧cap=cap':=by simpa using e1
    have hg:=(Array.getElem?_eq_some_iff.1 e3).1
    have c:∀ j v,j<6→l[k].row[j]?=some v→wr.cell? ⟨g,k*6+j,none⟩=some v:=fun j v hj hv=>by
     have:=OwnM.cells hr (k*6+j) v (by rw [msg_at hlt j hj,hv])
     rw [Addr.add_lit,Nat.zero_add] at this
     exact (hbw.cell (p:=⟨g,_,none⟩) hg).trans this
    exact ⟨g,rfl,c 0 _ (by omega) rfl,c 1 _ (by omega) rfl,c 2 _ (by omega) rfl,c 3 _ (by omega) rfl,c 4 _ (by omega) rfl,c 5 _ (by omega) rfl⟩
   obtain ⟨g,rfl,c0,c1,c2,c3,c4,c5⟩:=cells
   obtain ⟨m,hm⟩:∃ m,l[k]=m:=⟨_,rfl⟩
   rw [hm] at c0 c1 c2 c3 c4 c5
   have B1:=Lib.hid (busy1_any T K ep at' pa pt m wr (HH.out.over hbw))
   go_wp2_with fail
   refine B1.out.mono ?_
   rintro e w1 ⟨rfl,hb1⟩
   have hb2:=hbw.trans (hb1.mono hs)
   have HM:=Lib.hid hm
   clear hm
   cases hv:busyM m ep at'
   ·have hn:∀ j (_:j<k+1) (hj:j<l.length),busyM l[j] ep at'=false:=by
     intro j h1 h2
     by_cases e:j=k
     ·subst e; rw [HM.out]; exact hv
     ·exact HK.out j (by omega) h2
    have HN:=Lib.hid hn
    clear hn hv
    go_wp2
    go_roundw
    case rel=>exact ⟨k+1,by omega,by go_num,HN.out,hb2⟩
    case measure=>simp [intOf]; omega
   ·have HP:=Lib.hid (show (0≤(k:Int) ↔ (l.any fun m=>busyM m ep at')=true) from by
     refine ⟨fun _=>?_,fun _=>by omega⟩
     rw [List.any_eq_true]
     exact ⟨l[k],List.getElem_mem hlt,by rw [HM.out]; exact hv⟩)
    clear hv
    go_wp2
    go_ret
    exact ⟨⟨_,rfl,HP.out⟩,hb2⟩
  ·have HP:=Lib.hid (show (0≤(-1:Int) ↔ (l.any fun m=>busyM m ep at')=true) from by
    refine ⟨fun h=>absurd h (by omega),fun h=>?_⟩
    obtain ⟨m,hm,h2⟩:=List.any_eq_true.1 h
    obtain ⟨j,hj,e⟩:=List.getElem_of_mem hm
    have:=HK.out j (by omega) hj
    rw [e,h2] at this
    cases this)
   go_wp2
   go_ret
   exact ⟨⟨_,rfl,HP.out⟩,hbw⟩
set_option maxRecDepth 100000 in
theorem contains_msg (T K:Nat) (ep at':Int) (pa pt B:Nat) (l:List Ms) (a:Option Addr) (cap:Nat) (w:World) (h:Bz T K ep at' pa pt w) (hl:l.length≤1000) (hr:OwnM B w (.slice a l.length cap) l) :
  Calls Tryz.prog 100 #[.slice a l.length cap,.func (.func 101) #[] #[.pointer (some ⟨pa,0,none⟩),.pointer (some ⟨pt,0,none⟩)]] w fun e w'=>e=.returned (.bool (l.any fun m=>busyM m ep at'))∧Below w.heap.size w w':=by
 have IX:=Lib.hid (index_msg T K ep at' pa pt B l a cap w h hl hr)
 obtain ⟨D,hD⟩:∃ D,(l.any fun m=>busyM m ep at')=D:=⟨_,rfl⟩
 rw [hD] at IX ⊢
 clear h hr hD
 go_enter Tryz.func100,Tryz.ntmps100
 go_wp2_with fail
 refine IX.out.mono ?_
 rintro e w1 ⟨⟨i,rfl,hi⟩,b1⟩
 have HI:=Lib.hid (show decide (0≤i)=D from by rw [Bool.eq_iff_iff,decide_eq_true_iff]; exact hi)
 clear hi
 go_wp2
 go_ret
 exact ⟨by rw [HI.out]; rfl,b1⟩
section
variable (w0 w:World) (n D T:Nat) (t:Tg) (Y:Nat→Prop)
set_option maxRecDepth 100000 in
set_option maxHeartbeats 4000000 in
theorem tbusy_any (at':Int) (h:TgR w0 n D T t Y w) (hl:t.fly.length≤1000) :
  Calls Tryz.prog 59 #[.pointer (some ⟨T,0,none⟩),.int .i64 at'] w fun e w'=>e=.returned (.bool (t.busy at'))∧Below w.heap.size w w':=by
 obtain ⟨X,m,ki,tb,lo,hy⟩:=h
 obtain ⟨w1,hw1⟩:∃ w1,w1=(w.alloc (.cells #[.pointer (some ⟨T,0,none⟩)] 26)).alloc (.cells #[.int .i64 at'] 3):=⟨_,rfl⟩
 have B1:=Lib.hid (show RowKit.Below w.heap.size w w1 from hw1▸(((Below.refl _ w).alloc (Nat.le_refl _) _).alloc (by simp) _))
 have C0:=(B1.out.cell (p:=⟨T,0,none⟩) (Array.getElem?_eq_some_iff.1 tb.blk).1).trans (tg_cells tb.blk tb.ok).1.1
 have c2:w1.cell? ⟨w.heap.size,0,none⟩=some (.pointer (some ⟨T,0,none⟩)):=by rw [hw1]; go_simp
 have c3:w1.cell? ⟨w.heap.size+1,0,none⟩=some (.int .i64 at'):=by rw [hw1]; go_simp
 have BZ:=Lib.hid (show Bz T m.K t.k.ep at' (w.heap.size+1) w.heap.size w1 from ⟨c3,c2,C0,fun x bx=>epochI n w0 x X D m.K t.k ((ki.over B1.out).over bx)⟩)
 have OM:=Lib.hid (show OwnM w0.heap.size w1 (.slice m.fa t.fly.length m.fc) t.fly from ownsRow_same tb.fly (fun b e=>B1.out.block b (ki.lt b (fly_block tb e).1)))
 have c4:=(B1.out.cell (p:=⟨T,86,none⟩) (Array.getElem?_eq_some_iff.1 tb.blk).1).trans (tg_cells tb.blk tb.ok).1.2.2.2.2.2.2.2.2.1
 have CT:=Lib.hid (contains_msg T m.K t.k.ep at' (w.heap.size+1) w.heap.size w0.heap.size t.fly m.fa m.fc w1 BZ.out hl OM.out)
 obtain ⟨R,hR⟩:∃ R,t.busy at'=R:=⟨_,rfl⟩
 have HR:=Lib.hid (show (t.fly.any fun m=>busyM m t.k.ep at')=R from hR)
 rw [hR]
 clear ki tb lo hy hR
 go_enter Tryz.func59,Tryz.ntmps59
 go_upto_region 1 with fail
 have hw1':=hw1
 rw [← hw1']
 clear hw1 hw1'
 go_wp2_with fail
 refine CT.out.mono ?_
 rintro e w2 ⟨rfl,b2⟩
 rw [HR.out]
 go_wp2
 go_ret
 exact ⟨rfl,B1.out.trans (b2.mono B1.out.size)⟩
set_option maxRecDepth 100000 in
set_option maxHeartbeats 4000000 in
theorem trefuse_any (bad at':Int) (h:TgR w0 n D T t Y w) (hl:t.fly.length≤1000) :
  Calls Tryz.prog 60 #[.pointer (some ⟨T,0,none⟩),errV bad,.int .i64 at'] w fun e w'=>e=.returned (errV (t.refuse bad at'))∧Below w.heap.size w w':=by
 by_cases hb:bad=0
 ·subst hb
  rw [errV_nil]
  have BU:=Lib.hid (tbusy_any w0 w n D T t Y at' h hl)
  obtain ⟨R,hR⟩:∃ R,t.busy at'=R:=⟨_,rfl⟩
  rw [hR] at BU
  have E:=Lib.hid (show t.refuse 0 at'=if R then 7 else 9 from by unfold Tg.refuse; rw [if_neg (fun h=>h rfl),hR])
  clear h hR
  cases R
  ·go_enter Tryz.func60,Tryz.ntmps60
   go_wp2_with fail
   refine BU.out.mono ?_
   rintro e w2 ⟨rfl,b2⟩
   go_wp2
   go_ret
   exact ⟨by rw [E.out]; rfl,b2⟩
  ·go_enter Tryz.func60,Tryz.ntmps60
   go_wp2_with fail
   refine BU.out.mono ?_
   rintro e w2 ⟨rfl,b2⟩
   go_wp2
   go_ret
   exact ⟨by rw [E.out]; rfl,b2⟩
 ·have E:=Lib.hid (show t.refuse bad at'=bad from by unfold Tg.refuse; rw [if_pos hb])
  rw [errV_some hb,E.out,errV_some hb]
  clear h
  go_enter Tryz.func60,Tryz.ntmps60
  go_wp2
  go_ret
  exact ⟨rfl,Below.refl _ _⟩
end
end Go.Proofs.YtajegiifabfcjaaGreatDoor
