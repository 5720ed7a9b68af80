/-
  Do, TgGrp
-/
import Derived.Test.YtajegiifabfcjaaGreatDoorQ16
import Derived.Deep.CutBlock
namespace Go.Proofs.YtajegiifabfcjaaGreatDoor
open Go.RowKit Go.Sort
theorem donone_any (f:Int) (w:World) :
  Calls Tryz.prog 115 #[.iface 95 (.int .i64 f)] w fun e w'=>e=.returned (.tuple #[.agg #[.int .i64 0,.slice none 0 0,.int .i64 0,.int .i64 0,.bool false],.slice none 0 0,.iface 95 (.int .i64 f)])∧Below w.heap.size w w':=by
 go_enter Tryz.func115,Tryz.ntmps115
 go_wp2
 exact bodyPost_ret (v:=.tuple #[.agg #[.int .i64 0,.slice none 0 0,.int .i64 0,.int .i64 0,.bool false],.slice none 0 0,.iface 95 (.int .i64 f)]) (by simp [results,Tryz.results115,go_sem]) rfl ⟨rfl,by repeat (first | exact Below.refl _ _ | refine Below.alloc ?_ (by simp) _)⟩
theorem str_zero (w:World):StR w St.zero none:=⟨by simp [St.zero],Pairs.nil _ _ _⟩
theorem do_err {s:St} {a:Option Addr} {c:Cmd} {w w':World} {f:Int} (hp:pdo s c=(St.zero,[],f)) (hb:Below w.heap.size w w') :
  Step3Post a (pdo s c) w (.returned (.tuple #[.agg #[.int .i64 0,.slice none 0 0,.int .i64 0,.int .i64 0,.bool false],.slice none 0 0,errV f])) w' :=
 Step3Post.mk (t:=St.zero) (a:=none) (cap:=0) hp rfl (str_zero _) (.inr (fun b o e=>by cases e)) (own_none _ _) hb
theorem keep_do {w w2 w':World} (hb:Below w.heap.size w w2) (k:Keeps (·=w.heap.size+1+1) w2 w'):Below w.heap.size w w':=hb.trans (k.below hb.size (fun m hm=>by omega))
theorem register_x (s:St) (a:Option Addr) (cap:Nat) (c:Cmd) (w:World) (hr:StR w s a) (hl:LFo s.regs 40) (hw:0≤c.who∧c.who≤1000) (r:St) (lt:List (Int × Int)) (h:pregister s c=(r,lt)) :
  Calls Tryz.prog 117 #[stV s a cap,cmdV c] w fun e w'=>∃ a' c' v,e=.returned (.tuple #[.agg #[.int .i64 r.gen,.slice a' r.regs.length c',.int .i64 r.typ,.int .i64 r.holder,.bool r.stays],v])∧StR w' r a'∧(∀ b o,a'=some ⟨b,o,none⟩→w.heap.size≤b)∧OwnT w.heap.size w' v lt∧Below w.heap.size w w':=by
 have:=register_any s a cap c w hr hl.len hw hl.bound hl.sort
 rw [h] at this
 exact this
theorem reserve_x (s:St) (a:Option Addr) (cap:Nat) (c:Cmd) (w:World) (hr:StR w s a) (r:St) (f:Int) (h:preserve s c=(r,f)) :
  Calls Tryz.prog 118 #[stV s a cap,cmdV c] w fun e w'=>e=.returned (.tuple #[.agg #[.int .i64 s.gen,.slice a s.regs.length cap,.int .i64 r.typ,.int .i64 r.holder,.bool s.stays],errV f])∧Below w.heap.size w w':=by
 have:=reserve_any s a cap c w hr
 unfold ResPost at this
 rw [h] at this
 exact this
theorem release_x (s:St) (a:Option Addr) (cap:Nat) (c:Cmd) (w:World) (hr:StR w s a) (hl:LFo s.regs 40) (r:St) (lt:List (Int × Int)) (f:Int) (h:prelease s c=(r,lt,f)) :
  Calls Tryz.prog 119 #[stV s a cap,cmdV c] w fun e w'=>∃ v,e=.returned (.tuple #[.agg #[.int .i64 s.gen,.slice a s.regs.length cap,.int .i64 r.typ,.int .i64 r.holder,.bool s.stays],v,errV f])∧OwnT w.heap.size w' v lt∧Below w.heap.size w w':=by
 have:=release_any s a cap c w hr (by have:=hl.len; omega)
 rw [h] at this
 exact this
theorem preempt_x (s:St) (a:Option Addr) (cap:Nat) (c:Cmd) (w:World) (hr:StR w s a) (hl:LFo s.regs 40) (r:St) (lt:List (Int × Int)) (f:Int) (h:ppreempt s c=(r,lt,f)) :
  Calls Tryz.prog 123 #[stV s a cap,cmdV c] w fun e w'=>∃ a' c' v,e=.returned (.tuple #[.agg #[.int .i64 r.gen,.slice a' r.regs.length c',.int .i64 r.typ,.int .i64 r.holder,.bool r.stays],v,errV f])∧StR w' r a'∧(a'=a∨∀ b o,a'=some ⟨b,o,none⟩→w.heap.size≤b)∧OwnT w.heap.size w' v lt∧Below w.heap.size w w':=by
 have:=preempt_any s a cap c w hr hl
 rw [h] at this
 exact this
theorem preserve_same {s r:St} {c:Cmd} {f:Int} (h:preserve s c=(r,f)):r.gen=s.gen∧r.regs=s.regs∧r.stays=s.stays:=by
 unfold preserve at h
 split at h
 ·split at h <;> (cases h; exact ⟨rfl,rfl,rfl⟩)
 ·cases h; exact ⟨rfl,rfl,rfl⟩
theorem prelease_same {s r:St} {c:Cmd} {f:Int} {lt:List (Int × Int)} (h:prelease s c=(r,lt,f)):r.gen=s.gen∧r.regs=s.regs∧r.stays=s.stays:=by
 unfold prelease at h
 split at h
 ·cases h; exact ⟨rfl,rfl,rfl⟩
 ·split at h
  ·cases h; exact ⟨rfl,rfl,rfl⟩
  ·split at h <;> (cases h; exact ⟨rfl,rfl,rfl⟩)
theorem preempt_len {s r:St} {c:Cmd} {f:Int} {lt:List (Int × Int)} (h:ppreempt s c=(r,lt,f)):r.regs.length≤s.regs.length:=by
 unfold ppreempt at h
 split at h
 ·cases h; exact Nat.le_refl _
 ·dsimp only at h
  split at h
  ·split at h
   ·cases h; exact Nat.le_refl _
   ·cases h; exact putOut_len _ _
  ·cases h; exact putOut_len _ _
theorem pacts_gen (s:St) (c:Cmd):(pacts s c).1.gen=s.gen:=by
 unfold pacts
 split
 ·show (pregister s c).1.gen=s.gen
  unfold pregister; dsimp only; (repeat' split) <;> rfl
 ·split
  ·exact (preserve_same (r:=(preserve s c).1) (f:=(preserve s c).2) rfl).1
  ·split
   ·exact (prelease_same (r:=(prelease s c).1) (lt:=(prelease s c).2.1) (f:=(prelease s c).2.2) rfl).1
   ·split
    ·rfl
    ·split
     ·unfold ppreempt; dsimp only; (repeat' split) <;> rfl
     ·rfl
theorem do_fin {s:St} {a a3:Option Addr} {c3:Nat} {c:Cmd} {w w2 wo wx w':World} {r:St} {l:List (Int × Int)} {v:Value} {M:Nat} (hp:pdo s c=(r,l,0)) (hs:StR wo r a3) (hA:(a3=a∧r.regs.length≤s.regs.length)∨∀ b o,a3=some ⟨b,o,none⟩→w2.heap.size≤b) (h0:Pairs w.heap.size wo a s.regs)
  (hN:w.heap.size+1+1<w2.heap.size) (hb:Below w.heap.size w wo) (ho:OwnT w2.heap.size wo v l) (k0:Keeps (·=M) wo wx) (hM:M<w2.heap.size) (k:Keeps (·=w.heap.size+1+1) wx w') (hMN:w.heap.size≤M) :
  Step3Post a (pdo s c) w (.returned (.tuple #[.agg #[.int .i64 r.gen,.slice a3 r.regs.length c3,.int .i64 r.typ,.int .i64 r.holder,.bool r.stays],v,.nilIface])) w':=by
 have hbx:Below w.heap.size w wx:=hb.trans (k0.below hb.size (fun m hm=>by omega))
 refine Step3Post.mk hp rfl ⟨hs.len,fun i hi=>?_⟩ (hA.imp (fun h=>h.1) (fun h b o e=>by have:=h b o e; omega)) (((ho.keeps k0 (fun m hm=>by omega)).keeps k (fun m hm=>by omega)).mono (by omega)) (hbx.trans (k.below hbx.size (fun m hm=>by omega)))
 obtain ⟨b,o,e,hb1,c1,c2⟩:=hs.rep i hi
 have hn:b≠w.heap.size+1+1∧b≠M:=by
  rcases hA with ⟨rfl,hl⟩ | hA
  ·obtain ⟨b',o',e',hb',-⟩:=h0 i (Nat.lt_of_lt_of_le hi hl)
   rw [e] at e'
   cases e'
   omega
  ·have:=hA b o e; omega
 have hbx1:=Nat.lt_of_lt_of_le hb1 k0.size
 exact ⟨b,o,e,Nat.lt_of_lt_of_le hbx1 k.size,by rw [k.cell hn.1 hbx1,k0.cell hn.2 hb1]; exact c1,by rw [k.cell hn.1 hbx1,k0.cell hn.2 hb1]; exact c2⟩
def DoRel (a:Option Addr) (n:Nat) (r:St) (lt:List (Int × Int)) (w2:World) (M:Nat) (v:Value) (wx:World):Prop :=
 ∃ a3 c3,((a3=a∧r.regs.length≤n)∨∀ b o,a3=some ⟨b,o,none⟩→w2.heap.size≤b)∧OwnT w2.heap.size wx v lt∧wx.heap[M]?=some (.cells #[.int .i64 r.gen,.slice a3 r.regs.length c3,.int .i64 r.typ,.int .i64 r.holder,.bool r.stays] 35 (0,0))∧StR wx r a3∧Keeps (·=M) w2 wx
theorem DoRel.mk {a a3:Option Addr} {c3:Nat} {r s:St} {lt:List (Int × Int)} {w2 w3 wx:World} {M B0:Nat} {v:Value} (hs:StR w3 r a3) (hA:a3=a∨∀ b o,a3=some ⟨b,o,none⟩→w2.heap.size≤b) (hp:Pairs B0 w2 a s.regs) (hB0:B0≤M) (hl:r.regs.length≤s.regs.length∨∀ b o,a3=some ⟨b,o,none⟩→w2.heap.size≤b) (ho:OwnT w2.heap.size w3 v lt) (hb:Below w2.heap.size w2 w3) (hM:M<w2.heap.size)
  (h:wx.heap[M]?=some (.cells #[.int .i64 r.gen,.slice a3 r.regs.length c3,.int .i64 r.typ,.int .i64 r.holder,.bool r.stays] 35 (0,0))) (k:Keeps (·=M) w3 wx):DoRel a s.regs.length r lt w2 M v wx:=by
 have hA2:(a3=a∧r.regs.length≤s.regs.length)∨∀ b o,a3=some ⟨b,o,none⟩→w2.heap.size≤b:=by
  rcases hA with h1 | h1
  ·rcases hl with h2 | h2
   ·exact .inl ⟨h1,h2⟩
   ·exact .inr h2
  ·exact .inr h1
 refine ⟨a3,c3,hA2,ho.keeps k (fun m hm=>by omega),h,?_,(Keeps.of_below hb).trans k⟩
 refine ⟨hs.len,fun i hi=>?_⟩
 obtain ⟨b,o,e,hb1,c1,c2⟩:=hs.rep i hi
 have hn:b≠M:=by
  rcases hA with rfl | hA
  ·rcases hl with hl | hl
   ·obtain ⟨b',o',e',hb',-⟩:=hp i (by omega)
    rw [e] at e'
    cases e'
    omega
   ·have:=hl b o e; omega
  ·have:=hA b o e; omega
 exact ⟨b,o,e,Nat.lt_of_lt_of_le hb1 k.size,by rw [k.cell hn hb1]; exact c1,by rw [k.cell hn hb1]; exact c2⟩
set_option maxRecDepth 100000 in
set_option maxHeartbeats 4000000 in
theorem do_any (s:St) (a:Option Addr) (cap:Nat) (c:Cmd) (w:World) (hr:StR w s a) (hl:LFo s.regs 40) (hw:0≤c.who∧c.who≤1000) (h1:1≤c.op) (hg:0≤s.gen∧s.gen≤1000000000) :
  Calls Tryz.prog 94 #[stV s a cap,cmdV c] w (Step3Post a (pdo s c) w):=by
 have HR:=Lib.hid hr
 have HL:=Lib.hid hl
 have HRQ:=Lib.hid (fun o p q d os=>(hr.below (bal3' w o p q)).below (below_regrown (((w.alloc o).alloc p).alloc q) d os))
 clear hr hl
 by_cases h6:6<c.op
 ·have P1:=Lib.hid (show pdo s c=(St.zero,[],2) from by unfold pdo; rw [if_pos h6])
  go_enter Tryz.func94,Tryz.ntmps94
  go_wp2_with fail
  refine (donone_any 2 _).mono ?_
  rintro e w1 ⟨rfl,b1⟩
  have hN:w.heap.size+1+1<w1.heap.size:=by have:=b1.size; simp at this; omega
  obtain ⟨⟨z0,z1,z2,z3,z4⟩,y0,y1,y2,y3,y4⟩:=box5 b1 (b:=w.heap.size+1+1) (by simp) (heap3 w _ _ _).2.2
  have B1:=Lib.hid ((bal3' w _ _ _).trans (b1.mono (bal3' w _ _ _).size))
  clear b1
  go_wp2
  refine bodyPost_ret (v:=.tuple #[.agg #[.int .i64 0,.slice none 0 0,.int .i64 0,.int .i64 0,.bool false],.slice none 0 0,.iface 95 (.int .i64 2)]) (by simp [results,Tryz.results94,go_sem, *]) rfl ?_
  refine do_err P1.out (keep_do B1.out ?_)
  repeat (first | with_reducible exact Keeps.refl _ _ | (with_reducible refine Keeps.drew ?_) | (with_reducible refine keeps_set ?_ _ _))
 have HP0:=Lib.hid (show pdo s c=(if (c.op=1∧keyOf s.regs c.who≠c.key)∨(2<c.op∧pknown s c=false) then (St.zero,[],4)
  else if (pacts s c).2.2≠0 then (St.zero,[],(pacts s c).2.2)
  else if c.op≠3∧c.op≠4 then ((pacts s c).1.next,(pacts s c).2.1,0) else ((pacts s c).1,(pacts s c).2.1,0)) from by unfold pdo; rw [if_neg h6])
 obtain ⟨D,hD⟩:∃ D,decide ((c.op=1∧keyOf s.regs c.who≠c.key)∨(2<c.op∧pknown s c=false))=D:=⟨_,rfl⟩
 have HD:=Lib.hid hD
 clear hD
 go_enter Tryz.func94,Tryz.ntmps94
 go_upto_region 4 with fail
 go_cut [42] (fun v wx=>v=.bool D∧Below (((w.alloc (.cells #[.int .i64 s.gen,.slice a s.regs.length cap,.int .i64 s.typ,.int .i64 s.holder,.bool s.stays] 35)).alloc (.cells #[.int .i64 c.op,.int .i64 c.who,.int .i64 c.key,.int .i64 c.new,.int .i64 c.typ,.int .i64 c.at',.bool c.stays,.string c.data,.string c.want] 37)).alloc (.cells #[.int .i64 0,.slice none 0 0,.int .i64 0,.int .i64 0,.bool false] 35)).heap.size (((w.alloc (.cells #[.int .i64 s.gen,.slice a s.regs.length cap,.int .i64 s.typ,.int .i64 s.holder,.bool s.stays] 35)).alloc (.cells #[.int .i64 c.op,.int .i64 c.who,.int .i64 c.key,.int .i64 c.new,.int .i64 c.typ,.int .i64 c.at',.bool c.stays,.string c.data,.string c.want] 37)).alloc (.cells #[.int .i64 0,.slice none 0 0,.int .i64 0,.int .i64 0,.bool false] 35)) wx)
 case first =>
  have hq:=fun (o p q:Obj)=>bregrown (Below.refl (((w.alloc o).alloc p).alloc q).heap.size (((w.alloc o).alloc p).alloc q))
  by_cases h1:c.op=1
  ·have h1b:(c.op == 1)=true:=by simp [h1]
   have h2b:decide (2<c.op)=false:=by simp [h1]
   have PD:=Lib.hid (show D=(keyOf s.regs c.who != c.key) from by rw [← HD.out,Bool.eq_iff_iff]; simp [h1])
   clear h1 h6
   cases hk:(keyOf s.regs c.who != c.key)
   ·rw [hk] at PD
    refine wp_region_quiet_below (by kernel_rfl) (by kernel_rfl) ?_
    repeat (go_big_quiet_step (exact Calls.regrown_of (key_any s a cap c.who _ (HRQ.out _ _ _ _ _))))
    refine wpQuiet_nil ?_
    rintro w' ⟨⟨dq,osq⟩,rfl⟩
    go_wp2_with fail
    go_meet
    exact ⟨by rw [PD.out],below_regrown _ dq osq⟩
   ·rw [hk] at PD
    refine wp_region_quiet_below (by kernel_rfl) (by kernel_rfl) ?_
    repeat (go_big_quiet_step (exact Calls.regrown_of (key_any s a cap c.who _ (HRQ.out _ _ _ _ _))))
    refine wpQuiet_nil ?_
    rintro w' ⟨⟨dq,osq⟩,rfl⟩
    go_wp2_with fail
    go_meet
    exact ⟨by rw [PD.out],below_regrown _ dq osq⟩
  ·have h1b:(c.op == 1)=false:=by simp [h1]
   by_cases h2:2<c.op
   ·have PD:=Lib.hid (show D=!pknown s c from by rw [← HD.out,Bool.eq_iff_iff]; simp [h1,h2])
    clear h1 h6
    refine wp_region_quiet_below (by kernel_rfl) (by kernel_rfl) ?_
    repeat (go_big_quiet_step (exact Calls.regrown_of (oknown_any s a cap c _ (HRQ.out _ _ _ _ _))))
    refine wpQuiet_nil ?_
    rintro w' ⟨⟨dq,osq⟩,rfl⟩
    go_wp2_with fail
    go_meet
    exact ⟨by rw [PD.out],below_regrown _ dq osq⟩
   ·have PD:=Lib.hid (show D=false from by rw [← HD.out]; simp [h1,h2])
    clear h1 h6
    refine wp_region_quiet_below (by kernel_rfl) (by kernel_rfl) ?_
    repeat (go_big_quiet_step (fail))
    refine wpQuiet_nil ?_
    rintro w' ⟨⟨dq,osq⟩,rfl⟩
    go_wp2_with fail
    go_meet
    exact ⟨by rw [PD.out],below_regrown _ dq osq⟩
 case rest =>
  obtain ⟨rfl,b1⟩:=hcut
  have HR1:=Lib.hid ((HR.out.below (bal3' w _ _ _)).below b1)
  have hM:w.heap.size+1+1<wc.heap.size:=by have:=b1.size; simp at this; omega
  have hM0:w.heap.size<wc.heap.size:=by omega
  have hM1:w.heap.size+1<wc.heap.size:=by omega
  have HS1:=Lib.hid ((b1.block w.heap.size (by simp <;> omega)).trans (heap3 w _ _ _).1)
  have HC1:=Lib.hid ((b1.block (w.heap.size+1) (by simp <;> omega)).trans (heap3 w _ _ _).2.1)
  have HZ1:=Lib.hid ((b1.block (w.heap.size+1+1) (by simp <;> omega)).trans (heap3 w _ _ _).2.2)
  have B1:=Lib.hid ((bal3' w _ _ _).trans (b1.mono (bal3' w _ _ _).size))
  clear b1 HRQ
  cases D
  ·have HP1:=Lib.hid (HP0.out.trans (if_neg (by simpa using HD.out)))
   clear HP0 HD
   obtain ⟨⟨d0,d1,d2,d3,d4⟩,-⟩:=box5 (Below.refl wc.heap.size wc) hM0 HS1.out
   go_upto_region 7 with fail
   obtain ⟨w2,hw2⟩:∃ w2,w2=wc.alloc (.cells #[.int .i64 s.gen,.slice a s.regs.length cap,.int .i64 s.typ,.int .i64 s.holder,.bool s.stays] 35):=⟨_,rfl⟩
   rw [← hw2]
   have HT2:=Lib.hid (show w2.heap[wc.heap.size]?=some (.cells #[.int .i64 s.gen,.slice a s.regs.length cap,.int .i64 s.typ,.int .i64 s.holder,.bool s.stays] 35 (0,0)) from hw2▸heap_alloc_new _ _)
   have HB2:=Lib.hid (show Below wc.heap.size wc w2 from hw2▸bal wc _)
   have hM2:wc.heap.size<w2.heap.size:=by rw [hw2]; simp
   clear hw2
   have HS2:=Lib.hid ((HB2.out.block _ hM0).trans HS1.out)
   have HC2:=Lib.hid ((HB2.out.block _ hM1).trans HC1.out)
   have HZ2:=Lib.hid ((HB2.out.block _ hM).trans HZ1.out)
   have k0:w2.cell? ⟨w.heap.size+1,0,none⟩=some (.int .i64 c.op):=by simp [World.cell?,HC2.out]
   clear d0 d1 d2 d3 d4
   obtain ⟨⟨r,lt,f⟩,hR⟩:∃ R,pacts s c=R:=⟨_,rfl⟩
   have HRR:=Lib.hid hR
   rw [hR] at HP1
   clear hR
   dsimp only at HP1
   go_upto_block 0 with fail
   go_cut [9,10] (fun v u wx=>u=errV f∧DoRel a s.regs.length r lt w2 wc.heap.size v wx)
   case first =>
    obtain ⟨⟨d0,d1,d2,d3,d4⟩,-⟩:=box5 (Below.refl w2.heap.size w2) (by omega) HS2.out
    have k1:w2.cell? ⟨w.heap.size+1,1,none⟩=some (.int .i64 c.who):=by simp [World.cell?,HC2.out]
    have k2:w2.cell? ⟨w.heap.size+1,2,none⟩=some (.int .i64 c.key):=by simp [World.cell?,HC2.out]
    have k3:w2.cell? ⟨w.heap.size+1,3,none⟩=some (.int .i64 c.new):=by simp [World.cell?,HC2.out]
    have k4:w2.cell? ⟨w.heap.size+1,4,none⟩=some (.int .i64 c.typ):=by simp [World.cell?,HC2.out]
    have k5:w2.cell? ⟨w.heap.size+1,5,none⟩=some (.int .i64 c.at'):=by simp [World.cell?,HC2.out]
    have k6:w2.cell? ⟨w.heap.size+1,6,none⟩=some (.bool c.stays):=by simp [World.cell?,HC2.out]
    have k7:w2.cell? ⟨w.heap.size+1,7,none⟩=some (.string c.data):=by simp [World.cell?,HC2.out]
    have k8:w2.cell? ⟨w.heap.size+1,8,none⟩=some (.string c.want):=by simp [World.cell?,HC2.out]
    have HR2:=Lib.hid (HR1.out.below HB2.out)
    have HRW:=Lib.hid (HR.out.rep.below (B1.out.trans (HB2.out.mono B1.out.size)) (Nat.le_refl _))
    rcases (by omega:c.op=1∨c.op=2∨c.op=3∨c.op=4∨c.op=5∨c.op=6) with h | h | h | h | h | h
    ·have hop1:(c.op == 1)=true:=by simp [h]
     have HE:=Lib.hid (show pregister s c=(r,lt)∧f=0 from by have:=HRR.out; simp [pacts,h] at this; simp [← this.1,← this.2.1,this.2.2.symm])
     clear h
     go_wp2_with fail
     refine (register_x s a cap c _ HR2.out HL.out hw r lt HE.out.1).mono ?_
     rintro e w3 ⟨a3,c3,v3,rfl,hs3,lo3,ho3,b3⟩
     obtain ⟨⟨t0,t1,t2,t3,t4⟩,p0,p1,p2,p3,p4⟩:=box5 b3 hM2 HT2.out
     have HT3:=Lib.hid ((b3.block _ hM2).trans HT2.out)
     have FIN:=Lib.hid (fun wx h k=>DoRel.mk (s:=s) (M:=wc.heap.size) (wx:=wx) (c3:=c3) (a:=a) hs3 (.inr lo3) HRW.out (by omega) (.inr lo3) ho3 b3 hM2 h k)
     clear hs3 lo3 ho3 b3
     go_wp2_with fail
     go_meet
     exact ⟨by rw [HE.out.2]; rfl,FIN.out _ (block_setCell (block_setCell (block_setCell (block_setCell (block_setCell HT3.out _) _) _) _) _) (keeps_set (keeps_set (keeps_set (keeps_set (keeps_set (Keeps.refl _ _) _ _) _ _) _ _) _ _) _ _)⟩
    ·have hop1:(c.op == 1)=false:=by simp [h]
     have hop2:(c.op == 2)=true:=by simp [h]
     have HE:=Lib.hid (show pregister s c=(r,lt)∧f=0 from by have:=HRR.out; simp [pacts,h] at this; simp [← this.1,← this.2.1,this.2.2.symm])
     clear h
     go_wp2_with fail
     refine (register_x s a cap c _ HR2.out HL.out hw r lt HE.out.1).mono ?_
     rintro e w3 ⟨a3,c3,v3,rfl,hs3,lo3,ho3,b3⟩
     obtain ⟨⟨t0,t1,t2,t3,t4⟩,p0,p1,p2,p3,p4⟩:=box5 b3 hM2 HT2.out
     have HT3:=Lib.hid ((b3.block _ hM2).trans HT2.out)
     have FIN:=Lib.hid (fun wx h k=>DoRel.mk (s:=s) (M:=wc.heap.size) (wx:=wx) (c3:=c3) (a:=a) hs3 (.inr lo3) HRW.out (by omega) (.inr lo3) ho3 b3 hM2 h k)
     clear hs3 lo3 ho3 b3
     go_wp2_with fail
     go_meet
     exact ⟨by rw [HE.out.2]; rfl,FIN.out _ (block_setCell (block_setCell (block_setCell (block_setCell (block_setCell HT3.out _) _) _) _) _) (keeps_set (keeps_set (keeps_set (keeps_set (keeps_set (Keeps.refl _ _) _ _) _ _) _ _) _ _) _ _)⟩
    ·have hop1:(c.op == 1)=false:=by simp [h]
     have hop2:(c.op == 2)=false:=by simp [h]
     have hop3:(c.op == 3)=true:=by simp [h]
     have HE:=Lib.hid (show preserve s c=(r,f)∧lt=[] from by have:=HRR.out; simp [pacts,h] at this; simp [← this.1,← this.2.2,this.2.1.symm])
     have HEQ:=Lib.hid (preserve_same HE.out.1)
     clear h
     go_wp2_with fail
     refine (reserve_x s a cap c _ HR2.out r f HE.out.1).mono ?_
     rintro e w3 ⟨rfl,b3⟩
     obtain ⟨⟨t0,t1,t2,t3,t4⟩,p0,p1,p2,p3,p4⟩:=box5 b3 hM2 HT2.out
     have HT3:=Lib.hid ((b3.block _ hM2).trans HT2.out)
     have FIN:=Lib.hid (fun wx h k=>DoRel.mk (s:=s) (r:=r) (M:=wc.heap.size) (wx:=wx) (c3:=cap) (a:=a) (str_any (HR2.out.below b3) r HEQ.out.2.1) (.inl rfl) HRW.out (by omega) (.inl (by rw [HEQ.out.2.1]; exact Nat.le_refl _)) (own_none _ _) b3 hM2 h k)
     clear b3
     go_wp2_with fail
     go_meet
     exact ⟨rfl,by rw [HE.out.2]; exact FIN.out _ (by rw [HEQ.out.1,HEQ.out.2.1,HEQ.out.2.2]; exact block_setCell (block_setCell (block_setCell (block_setCell (block_setCell HT3.out _) _) _) _) _) (keeps_set (keeps_set (keeps_set (keeps_set (keeps_set (Keeps.refl _ _) _ _) _ _) _ _) _ _) _ _)⟩
    ·have hop1:(c.op == 1)=false:=by simp [h]
     have hop2:(c.op == 2)=false:=by simp [h]
     have hop3:(c.op == 3)=false:=by simp [h]
     have hop4:(c.op == 4)=true:=by simp [h]
     have HE:=Lib.hid (show prelease s c=(r,lt,f) from by have:=HRR.out; simpa [pacts,h] using this)
     have HEQ:=Lib.hid (prelease_same HE.out)
     clear h
     go_wp2_with fail
     refine (release_x s a cap c _ HR2.out HL.out r lt f HE.out).mono ?_
     rintro e w3 ⟨v3,rfl,ho3,b3⟩
     obtain ⟨⟨t0,t1,t2,t3,t4⟩,p0,p1,p2,p3,p4⟩:=box5 b3 hM2 HT2.out
     have HT3:=Lib.hid ((b3.block _ hM2).trans HT2.out)
     have FIN:=Lib.hid (fun wx h k=>DoRel.mk (s:=s) (r:=r) (M:=wc.heap.size) (wx:=wx) (c3:=cap) (a:=a) (str_any (HR2.out.below b3) r HEQ.out.2.1) (.inl rfl) HRW.out (by omega) (.inl (by rw [HEQ.out.2.1]; exact Nat.le_refl _)) ho3 b3 hM2 h k)
     clear ho3 b3
     go_wp2_with fail
     go_meet
     exact ⟨rfl,FIN.out _ (by rw [HEQ.out.1,HEQ.out.2.1,HEQ.out.2.2]; exact block_setCell (block_setCell (block_setCell (block_setCell (block_setCell HT3.out _) _) _) _) _) (keeps_set (keeps_set (keeps_set (keeps_set (keeps_set (Keeps.refl _ _) _ _) _ _) _ _) _ _) _ _)⟩
    ·have hop1:(c.op == 1)=false:=by simp [h]
     have hop2:(c.op == 2)=false:=by simp [h]
     have hop3:(c.op == 3)=false:=by simp [h]
     have hop4:(c.op == 4)=false:=by simp [h]
     have hop5:(c.op == 5)=true:=by simp [h]
     have HE:=Lib.hid (show s.free.withRegs []=r∧toldL (othersL c.who s.regs) 3=lt∧f=0 from by have:=HRR.out; simp [pacts,h] at this; exact ⟨this.1,this.2.1,this.2.2.symm⟩)
     clear h
     obtain ⟨O,hO⟩:∃ O,othersL c.who s.regs=O:=⟨_,rfl⟩
     have hol:O.length≤40:=by have:=others_len c.who s.regs s.regs.length; rw [List.take_length,hO] at this; have:=HL.out.len; omega
     have HO:=Lib.hid hO
     clear hO
     go_wp2_with fail
     refine (others_x s.gen s.regs s.typ s.holder s.stays a cap c.who _ HR2.out (by have:=HL.out.len; omega) O HO.out).mono ?_
     rintro e w6 ⟨a6,c6,rfl,hi6,b6⟩
     go_wp2_with fail
     refine (told_any O a6 c6 3 _ (by omega) hi6).mono ?_
     rintro e w3 ⟨v3,rfl,ho3,b7⟩
     have b3:Below w2.heap.size w2 w3:=b6.trans (b7.mono b6.size)
     have ho3':OwnT w2.heap.size w3 v3 lt:=by rw [← HE.out.2.1,HO.out]; exact ho3.mono b6.size
     have hM3:wc.heap.size<w3.heap.size:=Nat.lt_of_lt_of_le hM2 b3.size
     obtain ⟨⟨d0,d1,d2,d3,d4⟩,-⟩:=box5 b3 (by omega) HS2.out
     have HT3:=Lib.hid ((b3.block _ hM2).trans HT2.out)
     have HO3:=Lib.hid ho3'
     have B3:=Lib.hid b3
     clear hi6 b6 ho3 b7 b3 ho3'
     go_wp2_with fail
     refine (free_any s.gen s.regs s.typ s.holder s.stays a cap _).mono ?_
     rintro e w4 ⟨rfl,b4⟩
     obtain ⟨⟨t0,t1,t2,t3,t4⟩,p0,p1,p2,p3,p4⟩:=box5 b4 hM3 HT3.out
     have HT4:=Lib.hid ((b4.block _ hM3).trans HT3.out)
     have FIN:=Lib.hid (fun wx h k=>DoRel.mk (s:=s) (r:=s.free.withRegs []) (a3:=none) (M:=wc.heap.size) (wx:=wx) (c3:=0) (a:=a) (w3:=w4) ⟨by simp [St.withRegs],Pairs.nil _ _ _⟩ (.inr (fun b o e=>by cases e)) HRW.out (by omega) (.inr (fun b o e=>by cases e)) (HO3.out.below b4) (B3.out.trans (b4.mono B3.out.size)) hM2 h k)
     clear b4
     go_wp2_with fail
     go_meet
     exact ⟨by rw [HE.out.2.2]; rfl,by rw [← HE.out.1]; exact FIN.out _ (block_setCell (block_setCell (block_setCell (block_setCell (block_setCell (block_setCell HT4.out _) _) _) _) _) _) (keeps_set (keeps_set (keeps_set (keeps_set (keeps_set (keeps_set (Keeps.refl _ _) _ _) _ _) _ _) _ _) _ _) _ _)⟩
    ·have hop1:(c.op == 1)=false:=by simp [h]
     have hop2:(c.op == 2)=false:=by simp [h]
     have hop3:(c.op == 3)=false:=by simp [h]
     have hop4:(c.op == 4)=false:=by simp [h]
     have hop5:(c.op == 5)=false:=by simp [h]
     have hop6:(c.op == 6)=true:=by simp [h]
     have HE:=Lib.hid (show ppreempt s c=(r,lt,f) from by have:=HRR.out; simpa [pacts,h] using this)
     clear h
     go_wp2_with fail
     refine (preempt_x s a cap c _ HR2.out HL.out r lt f HE.out).mono ?_
     rintro e w3 ⟨a3,c3,v3,rfl,hs3,hA3,ho3,b3⟩
     obtain ⟨⟨t0,t1,t2,t3,t4⟩,p0,p1,p2,p3,p4⟩:=box5 b3 hM2 HT2.out
     have HT3:=Lib.hid ((b3.block _ hM2).trans HT2.out)
     have FIN:=Lib.hid (fun wx h k=>DoRel.mk (s:=s) (M:=wc.heap.size) (wx:=wx) (c3:=c3) (a:=a) hs3 hA3 HRW.out (by omega) (.inl (preempt_len HE.out)) ho3 b3 hM2 h k)
     clear hs3 hA3 ho3 b3
     go_wp2_with fail
     go_meet
     exact ⟨rfl,FIN.out _ (block_setCell (block_setCell (block_setCell (block_setCell (block_setCell HT3.out _) _) _) _) _) (keeps_set (keeps_set (keeps_set (keeps_set (keeps_set (Keeps.refl _ _) _ _) _ _) _ _) _ _) _ _)⟩
   case rest =>
    obtain ⟨wo,rfl⟩:∃ wo:World,wo=wc:=⟨_,rfl⟩
    obtain ⟨rfl,a3,c3,hA3,ho3,hb3,hs3,hk3⟩:=hcut
    have hgr:=(pacts_gen s c).symm.trans (congrArg (fun x=>x.1.gen) HRR.out)
    dsimp only at hgr
    have hg1:0≤r.gen∧r.gen≤1000000000:=by rw [← hgr]; exact hg
    have hM5:wc.heap.size<wo.heap.size:=Nat.lt_of_lt_of_le hM2 hk3.size
    have hN5:w.heap.size+1<wo.heap.size:=by omega
    have hN6:w.heap.size+1+1<wo.heap.size:=by omega
    have HC5:=Lib.hid ((hk3.block (w.heap.size+1) (by omega) (by omega)).trans HC2.out)
    have HZ5:=Lib.hid ((hk3.block (w.heap.size+1+1) (by omega) (by omega)).trans HZ2.out)
    have HA3:=Lib.hid hA3
    have HO3:=Lib.hid ho3
    have HB3:=Lib.hid hb3
    have HS3:=Lib.hid hs3
    have BB:=Lib.hid (show Below w.heap.size w wo from B1.out.trans ((HB2.out.trans (hk3.below (Nat.le_of_lt hM2) (fun m hm=>by omega))).mono B1.out.size))
    have HR0:=Lib.hid (HR.out.rep.below BB.out (Nat.le_refl _))
    have hM2':w.heap.size+1+1<w2.heap.size:=by omega
    obtain ⟨⟨z0,z1,z2,z3,z4⟩,y0,y1,y2,y3,y4⟩:=box5 (Below.refl wo.heap.size wo) hN6 HZ5.out
    obtain ⟨⟨t0,t1,t2,t3,t4⟩,p0,p1,p2,p3,p4⟩:=box5 (Below.refl wo.heap.size wo) hM5 HB3.out
    have k0':wo.cell? ⟨w.heap.size+1,0,none⟩=some (.int .i64 c.op):=by simp [World.cell?,HC5.out]
    have hne:wc.heap.size≠w.heap.size+1+1:=by omega
    have hne2:w.heap.size+1+1≠wc.heap.size:=by omega
    clear hgr hA3 ho3 hb3 hs3 hk3 k0
    by_cases hf:f=0
    ·subst hf
     rw [errV_nil]
     have HP2:=Lib.hid (HP1.out.trans (if_neg (by simp)))
     clear HP1
     by_cases h34:c.op=3∨c.op=4
     ·have HP3:=Lib.hid (HP2.out.trans (if_neg (by omega)))
      clear HP2
      have key:∀ (b3 b4:Bool),(c.op != 3)=b3→(c.op != 4)=b4→(b3=false∨b4=false)→True:=fun _ _ _ _ _=>trivial
      rcases h34 with h3 | h4
      ·have hb3:(c.op != 3)=false:=by simp [h3]
       clear h3 key
       go_wp2
       refine bodyPost_ret (v:=.tuple #[.agg #[.int .i64 r.gen,.slice a3 r.regs.length c3,.int .i64 r.typ,.int .i64 r.holder,.bool r.stays],u9,.nilIface]) (by simp [results,Tryz.results94,go_sem, *]) rfl ?_
       refine do_fin HP3.out HS3.out HA3.out HR0.out hM2' BB.out HO3.out (Keeps.refl (·=wc.heap.size) _) hM2 ?_ (by omega)
       repeat (first | with_reducible exact Keeps.refl _ _ | (with_reducible refine Keeps.drew ?_) | (with_reducible refine keeps_set ?_ _ _))
      ·have hb3:(c.op != 3)=true:=by simp [h4]
       have hb4:(c.op != 4)=false:=by simp [h4]
       clear h4 key
       go_wp2
       refine bodyPost_ret (v:=.tuple #[.agg #[.int .i64 r.gen,.slice a3 r.regs.length c3,.int .i64 r.typ,.int .i64 r.holder,.bool r.stays],u9,.nilIface]) (by simp [results,Tryz.results94,go_sem, *]) rfl ?_
       refine do_fin HP3.out HS3.out HA3.out HR0.out hM2' BB.out HO3.out (Keeps.refl (·=wc.heap.size) _) hM2 ?_ (by omega)
       repeat (first | with_reducible exact Keeps.refl _ _ | (with_reducible refine Keeps.drew ?_) | (with_reducible refine keeps_set ?_ _ _))
     ·have HP3:=Lib.hid (HP2.out.trans (if_pos (by omega)))
      have hb3:(c.op != 3)=true:=by rw [bne_iff_ne]; omega
      have hb4:(c.op != 4)=true:=by rw [bne_iff_ne]; omega
      clear HP2 h34
      by_cases hov:1000000000<r.gen+1
      ·have HP4:=Lib.hid (show pdo s c=(⟨0,r.regs,r.typ,r.holder,r.stays⟩,lt,0) from by rw [HP3.out]; simp only [St.next,if_pos hov])
       go_wp2
       refine bodyPost_ret (v:=.tuple #[.agg #[.int .i64 0,.slice a3 r.regs.length c3,.int .i64 r.typ,.int .i64 r.holder,.bool r.stays],u9,.nilIface]) (by simp [results,Tryz.results94,go_sem, *]) rfl ?_
       refine do_fin (wx:=(wo.setCell ⟨wc.heap.size,0,none⟩ (.int .i64 (r.gen+1))).setCell ⟨wc.heap.size,0,none⟩ (.int .i64 0)) HP4.out (str_any HS3.out ⟨0,r.regs,r.typ,r.holder,r.stays⟩ rfl) HA3.out HR0.out hM2' BB.out HO3.out (keeps_set (keeps_set (Keeps.refl _ _) _ _) _ _) hM2 ?_ (by omega)
       repeat (first | with_reducible exact Keeps.refl _ _ | (with_reducible refine Keeps.drew ?_) | (with_reducible refine keeps_set ?_ _ _))
      ·have HP4:=Lib.hid (show pdo s c=(⟨r.gen+1,r.regs,r.typ,r.holder,r.stays⟩,lt,0) from by rw [HP3.out]; simp only [St.next,if_neg hov])
       go_wp2
       refine bodyPost_ret (v:=.tuple #[.agg #[.int .i64 (r.gen+1),.slice a3 r.regs.length c3,.int .i64 r.typ,.int .i64 r.holder,.bool r.stays],u9,.nilIface]) (by simp [results,Tryz.results94,go_sem, *]) rfl ?_
       refine do_fin (wx:=wo.setCell ⟨wc.heap.size,0,none⟩ (.int .i64 (r.gen+1))) HP4.out (str_any HS3.out ⟨r.gen+1,r.regs,r.typ,r.holder,r.stays⟩ rfl) HA3.out HR0.out hM2' BB.out HO3.out (keeps_set (Keeps.refl _ _) _ _) hM2 ?_ (by omega)
       repeat (first | with_reducible exact Keeps.refl _ _ | (with_reducible refine Keeps.drew ?_) | (with_reducible refine keeps_set ?_ _ _))
    ·have HP2:=Lib.hid (HP1.out.trans (if_pos hf))
     rw [errV_some hf]
     clear HP1
     have HF:=Lib.hid hf
     clear hf t0 t1 t2 t3 t4 p0 p1 p2 p3 p4 z0 z1 z2 z3 z4 y0 y1 y2 y3 y4
     go_wp2_with fail
     refine (donone_any f _).mono ?_
     rintro e w6 ⟨rfl,b6⟩
     obtain ⟨⟨z0,z1,z2,z3,z4⟩,y0,y1,y2,y3,y4⟩:=box5 b6 hN6 HZ5.out
     have B6:=Lib.hid (BB.out.trans (b6.mono BB.out.size))
     clear b6
     go_wp2
     refine bodyPost_ret (v:=.tuple #[.agg #[.int .i64 0,.slice none 0 0,.int .i64 0,.int .i64 0,.bool false],.slice none 0 0,.iface 95 (.int .i64 f)]) (by simp [results,Tryz.results94,go_sem, *]) rfl ?_
     have HE6:=errV_some HF.out
     rw [← HE6]
     refine do_err HP2.out (keep_do B6.out ?_)
     repeat (first | with_reducible exact Keeps.refl _ _ | (with_reducible refine Keeps.drew ?_) | (with_reducible refine keeps_set ?_ _ _))
  ·have HP1:=Lib.hid (HP0.out.trans (if_pos (by simpa using HD.out)))
   clear HP0 HD
   go_wp2_with fail
   refine (donone_any 4 _).mono ?_
   rintro e w2 ⟨rfl,b2⟩
   obtain ⟨⟨z0,z1,z2,z3,z4⟩,y0,y1,y2,y3,y4⟩:=box5 b2 (b:=w.heap.size+1+1) hM HZ1.out
   have B2:=Lib.hid (B1.out.trans (b2.mono B1.out.size))
   clear b2
   go_wp2
   refine bodyPost_ret (v:=.tuple #[.agg #[.int .i64 0,.slice none 0 0,.int .i64 0,.int .i64 0,.bool false],.slice none 0 0,.iface 95 (.int .i64 4)]) (by simp [results,Tryz.results94,go_sem, *]) rfl ?_
   refine do_err HP1.out (keep_do B2.out ?_)
   repeat (first | with_reducible exact Keeps.refl _ _ | (with_reducible refine Keeps.drew ?_) | (with_reducible refine keeps_set ?_ _ _))
end Go.Proofs.YtajegiifabfcjaaGreatDoor
namespace Go.Proofs.YtajegiifabfcjaaGreatDoor
open Go.RowKit
def flG (g:Gp) (i:Nat):Int:=(g.r.getD i Rp.zero).floor
theorem isM_iff {g:Gp} {ep:Int} {i:Nat}:g.isM ep i=true ↔ g.u.getD i false=true∧flG g i=ep:=by
 unfold Gp.isM flG
 simp only [Bool.and_eq_true,decide_eq_true_eq]
theorem flG_setR {g:Gp} {i j:Nat} {r:Rp} (hi:i<g.r.length):flG (g.setR i r) j=if j=i then r.floor else flG g j:=by
 unfold flG
 rw [getR_setR hi]
 split <;> rfl
structure QI (g:Gp) (ep:Int):Prop where
 ok:g.ok
 two:∃ i j,i<j∧j<3∧flG g i=ep∧flG g j=ep
 le:∀ i,i<3→flG g i≤ep
theorem QI.few {g:Gp} {ep:Int} (h:QI g ep):¬ 2≤(g.mem (ep - 1)).length:=by
 intro hm
 obtain ⟨i,j,hij,hj,h1,h2⟩:=h.two
 rcases mem_two hm hij hj with e | e
 ·have:=(isM_iff.1 e).2; omega
 ·have:=(isM_iff.1 e).2; omega
theorem QI.fence {g:Gp} {ep:Int} (h:QI g ep):g.fence ep=g:=by unfold Gp.fence; rw [if_neg h.few]
theorem QI.setU {g:Gp} {ep:Int} (h:QI g ep) (i:Nat) (b:Bool):QI (g.setU i b) ep:=⟨h.ok.setU i b,h.two,h.le⟩
theorem flG_admit (r:Rp) (k:Nat) (c:Cel):(r.admitC k c).floor=r.floor:=by unfold Rp.admitC; split <;> rfl
theorem flG_deliver {g:Gp} (hg:g.ok) {i k:Nat} (hi:i<3) (c:Cel) (j:Nat):flG (g.deliver i k c) j=flG g j:=by
 unfold Gp.deliver
 split
 ·rw [flG_setR (by rw [hg.r3]; exact hi)]
  split
  ·rename_i h; subst h; rw [flG_admit]; rfl
  ·rfl
 ·rfl
theorem QI.deliver {g:Gp} {ep:Int} (h:QI g ep) {i k:Nat} (hi:i<3) (c:Cel):QI (g.deliver i k c) ep:=by
 refine ⟨Gp.deliver_ok h.ok hi c,?_,fun j hj=>by rw [flG_deliver h.ok hi]; exact h.le j hj⟩
 obtain ⟨a,b,h1,h2,h3,h4⟩:=h.two
 exact ⟨a,b,h1,h2,by rw [flG_deliver h.ok hi]; exact h3,by rw [flG_deliver h.ok hi]; exact h4⟩
theorem flG_sync {g:Gp} (hg:g.ok) (ep:Int) {i:Nat} (hi:i<3) (j:Nat):flG (g.sync ep i) j=if g.syncs ep i=true∧j=i then ep else flG g j:=by
 unfold Gp.sync
 split
 ·rename_i hs
  rw [flG_setR (by rw [hg.r3]; exact hi)]
  by_cases hj:j=i
  ·rw [if_pos hj,if_pos ⟨hs,hj⟩]
  ·rw [if_neg hj,if_neg (fun e=>hj e.2)]
 ·rename_i hs
  rw [if_neg (fun e=>hs e.1)]
theorem QI.sync {g:Gp} {ep:Int} (h:QI g ep) {i:Nat} (hi:i<3):QI (g.sync ep i) ep:=by
 refine ⟨Gp.sync_ok h.ok ep i,?_,fun j hj=>?_⟩
 ·obtain ⟨a,b,h1,h2,h3,h4⟩:=h.two
  refine ⟨a,b,h1,h2,?_,?_⟩
  ·rw [flG_sync h.ok ep hi]; split
   ·rfl
   ·exact h3
  ·rw [flG_sync h.ok ep hi]; split
   ·rfl
   ·exact h4
 ·rw [flG_sync h.ok ep hi]; split
  ·omega
  ·exact h.le j hj
theorem flG_put1 {g:Gp} (hg:g.ok) {k:Nat} (c:Cel) {i:Nat} (hi:i<3) (j:Nat):flG (g.put1 k c i) j=flG g j:=by
 unfold Gp.put1
 rw [show (i:Int).toNat=i from rfl,flG_setR (by rw [hg.r3]; exact hi)]
 split
 ·rename_i h; subst h; rfl
 ·rfl
theorem flG_putAll {k:Nat} (c:Cel) (j:Nat):∀ (l:List Int) (g:Gp),g.ok→(∀ x∈l,∃ i:Nat,x=i∧i<3)→flG (g.putAll k c l) j=flG g j∧(g.putAll k c l).u=g.u
 | [],g,_,_=>⟨rfl,rfl⟩
 | x :: l,g,hg,hl=>by
  obtain ⟨i,rfl,hi⟩:=hl x (by simp)
  have ih:=flG_putAll (k:=k) c j l (g.put1 k c i) (Gp.put1_ok hg k c hi) (fun y hy=>hl y (by simp [hy]))
  have e:g.putAll k c ((i:Int) :: l)=(g.put1 k c i).putAll k c l:=rfl
  rw [e]
  exact ⟨ih.1.trans (flG_put1 hg c hi j),ih.2⟩
theorem flG_read {g:Gp} (hg:g.ok) (ep:Int) (k j:Nat):flG (g.read ep k) j=flG g j∧(g.read ep k).u=g.u:=by
 unfold Gp.read
 split
 ·exact flG_putAll _ j _ g hg mem_nat
 ·exact ⟨rfl,rfl⟩
theorem QI.read {g:Gp} {ep:Int} (h:QI g ep) (k:Nat):QI (g.read ep k) ep:=by
 refine ⟨Gp.read_ok h.ok ep k,?_,fun j hj=>by rw [(flG_read h.ok ep k j).1]; exact h.le j hj⟩
 obtain ⟨a,b,h1,h2,h3,h4⟩:=h.two
 exact ⟨a,b,h1,h2,by rw [(flG_read h.ok ep k _).1]; exact h3,by rw [(flG_read h.ok ep k _).1]; exact h4⟩
theorem mem_congr {g h:Gp} {ep ep':Int} (e:∀ i,i<3→g.isM ep i=h.isM ep' i):g.mem ep=h.mem ep':=by
 unfold Gp.mem Gp.memTo
 congr 1
 exact List.filter_congr fun i hi=>e i (List.mem_range.1 hi)
theorem flG_fenceTo {g:Gp} (hg:g.ok) (ep:Int) (j:Nat):∀ n,n≤3→flG (g.fenceTo ep n) j=if j<n∧g.u.getD j false=true∧flG g j=ep - 1 then ep else flG g j
 | 0,_=>by rw [if_neg (by omega)]; rfl
 | n+1,hn=>by
  have ih:=flG_fenceTo hg ep j n (by omega)
  have ok:=Gp.fenceTo_ok hg ep n (by omega)
  unfold Gp.fenceTo
  split
  ·rename_i hu
   rw [flG_setR (by rw [ok.r3]; omega)]
   by_cases hj:j=n
   ·subst hj
    rw [if_pos rfl]
    have e:flG (g.fenceTo ep j) j=flG g j:=by rw [ih,if_neg (by omega)]
    have e2:((g.fenceTo ep j).r.getD j Rp.zero).floor=flG g j:=e
    unfold Rp.fence
    by_cases hf:flG g j=ep - 1
    ·rw [if_pos (by rw [e2]; exact hf),if_pos ⟨by omega,hu,hf⟩]
    ·rw [if_neg (by rw [e2]; exact hf),if_neg (fun h=>hf h.2.2),e2]
   ·rw [if_neg hj,ih]
    by_cases hc:j<n∧g.u.getD j false=true∧flG g j=ep - 1
    ·rw [if_pos hc,if_pos ⟨by omega,hc.2⟩]
    ·rw [if_neg hc,if_neg (fun h=>hc ⟨by omega,h.2⟩)]
  ·rename_i hu
   rw [ih]
   by_cases hc:j<n∧g.u.getD j false=true∧flG g j=ep - 1
   ·rw [if_pos hc,if_pos ⟨by omega,hc.2⟩]
   ·rw [if_neg hc,if_neg (fun h=>hc ⟨by
     have:j≠n:=fun e=>hu (e▸h.2.1)
     omega,h.2⟩)]
theorem u_fence (g:Gp) (ep:Int):(g.fence ep).u=g.u:=by
 unfold Gp.fence; split
 ·exact Gp.fenceTo_u g ep 3
 ·rfl
theorem fence_next {g:Gp} {ep:Int} (h:QI g ep) (hm:2≤(g.mem ep).length):QI (g.fence (ep+1)) (ep+1)∧(g.fence (ep+1)).mem (ep+1)=g.mem ep∧(∀ j,j<3→flG (g.fence (ep+1)) j=if g.isM ep j=true then ep+1 else flG g j):=by
 have e:g.fence (ep+1)=g.fenceTo (ep+1) 3:=by unfold Gp.fence; rw [if_pos (by rw [show ep+1 - 1=ep by omega]; exact hm)]
 have hf:∀ j,j<3→flG (g.fence (ep+1)) j=if g.isM ep j=true then ep+1 else flG g j:=by
  intro j hj
  rw [e,flG_fenceTo h.ok (ep+1) j 3 (by omega)]
  by_cases hM:g.isM ep j=true
  ·have:=isM_iff.1 hM
   rw [if_pos hM,if_pos ⟨hj,this.1,by omega⟩]
  ·rw [if_neg hM,if_neg (fun hc=>hM (isM_iff.2 ⟨hc.2.1,by omega⟩))]
 have hM:∀ j,j<3→(g.fence (ep+1)).isM (ep+1) j=g.isM ep j:=by
  intro j hj
  rw [Bool.eq_iff_iff,isM_iff,u_fence,hf j hj]
  by_cases hM:g.isM ep j=true
  ·rw [if_pos hM]
   exact ⟨fun _=>hM,fun _=>⟨(isM_iff.1 hM).1,rfl⟩⟩
  ·rw [if_neg hM]
   have:=h.le j hj
   exact ⟨fun hc=>by omega,fun hc=>absurd hc hM⟩
 refine ⟨⟨Gp.fence_ok h.ok _,?_,fun i hi=>?_⟩,mem_congr hM,hf⟩
 ·obtain ⟨i,j,hij,hj,h1,h2⟩:=mem_two' hm
  exact ⟨i,j,hij,hj,by rw [hf i (by omega),if_pos h1],by rw [hf j hj,if_pos h2]⟩
 ·rw [hf i hi]
  have:=h.le i hi
  split <;> omega
structure Fa (S:Cel→Prop):Prop where
 z:S Cel.zero
 uni:∀ x y,S x→S y→x.e=y.e→x.n=y.n→x=y
theorem AllC.read {S:Cel→Prop} {g:Gp} (h:AllC S g) (hz:S Cel.zero) (ep:Int) (k:Nat):AllC S (g.read ep k):=by
 by_cases hm:2≤(g.mem ep).length
 ·rw [show g.read ep k=g.putAll k (g.readC ep k) (g.mem ep) from if_pos hm]
  refine AllC.putAll hz k ?_ _ _ h
  rw [show g.readC ep k=bestL k (g.frm ep) from if_pos hm]
  refine bestL_S hz k _ (fun r hr=>?_)
  obtain ⟨i,-,-,rfl⟩:=frm_mem hr
  exact valG_S h hz k i
 ·rw [show g.read ep k=g from if_neg hm]; exact h
end Go.Proofs.YtajegiifabfcjaaGreatDoor
