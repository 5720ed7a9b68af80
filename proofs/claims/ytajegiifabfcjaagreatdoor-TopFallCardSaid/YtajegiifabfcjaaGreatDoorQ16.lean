/-
  Contract: order.preempt.
-/
import Derived.Test.YtajegiifabfcjaaGreatDoorQ15
import Derived.Deep.DeepCutAuto
import Derived.BigQuiet
namespace Go.Proofs.YtajegiifabfcjaaGreatDoor
open Go.RowKit Go.Sort
theorem run_append_empty (P:Program) (w:World) (t ty e:TypeId) (i:TypeInfo) (ht:P.underlying t=some (.slice e)) (hi:P.info? e=some i) (base:Option Addr) (n c:Nat) (hn:n≤c) (ad:Option Addr) (c':Nat) :
  (Builtin.append_ #[t,t] ty #[.slice base n c,.slice ad 0 c']).run P w=.ok (.slice base n c) w:=by
 cases base <;> cases ad <;> simp [Builtin.append_,run_underlying ht,sizeOf,typeInfo,hi,Builtin.lenOf,Builtin.firstCells,loadCells,loadCellsFrom,storeCells,hn]
theorem wpList_append_empty {P:Program} {ops:Array Oper} {rest:List Oper} {o:Oper} {a:Act} {w:World} {Q:Exit→Act→World→Prop} (hgd:o.guard=none) (s x:Operand) (t:TypeId)
  (ho:o.op=.call { callee:=.builtin .append,args:=#[s,x],argTypes:=#[t,t] }) (e:TypeId) (i:TypeInfo) (ht:P.underlying t=some (.slice e)) (hi:P.info? e=some i) (base:Option Addr) (n c:Nat) (hn:n≤c) (ad:Option Addr) (c':Nat)
  (hs:a.eval s=.slice base n c) (hx:a.eval x=.slice ad 0 c') (h:wpList P ops Q rest (a.put o.dst (.slice base n c)) w):wpList P ops Q (o :: rest) a w :=
 wpList_plain hgd fun _ hK=>by
  unfold Oper.wp execOp
  simp only [ho,resolve,invoke,builtin,Sem.run_bind,Sem.run_pure,Result.andThen_ok,List.map_toArray,List.map_cons,List.map_nil,hs,hx,run_append_empty P w t _ e i ht hi base n c hn ad c']
  exact hK _ _ h
def Step3Post (a0:Option Addr) (r:St × List (Int × Int) × Int) (w:World) (e:Ending) (w':World):Prop :=
 ∃ a cap v,e=.returned (.tuple #[.agg #[.int .i64 r.1.gen,.slice a r.1.regs.length cap,.int .i64 r.1.typ,.int .i64 r.1.holder,.bool r.1.stays],v,errV r.2.2])∧StR w' r.1 a∧(a=a0∨∀ b o,a=some ⟨b,o,none⟩→w.heap.size≤b)∧OwnT w.heap.size w' v r.2.1∧Below w.heap.size w w'
theorem Step3Post.mk {a0:Option Addr} {r:St × List (Int × Int) × Int} {w w':World} {e:Ending} {t:St} {l:List (Int × Int)} {f:Int} {a:Option Addr} {cap:Nat} {v:Value} (hp:r=(t,l,f)) (he:e=.returned (.tuple #[.agg #[.int .i64 t.gen,.slice a t.regs.length cap,.int .i64 t.typ,.int .i64 t.holder,.bool t.stays],v,errV f])) (hs:StR w' t a) (hA:a=a0∨∀ b o,a=some ⟨b,o,none⟩→w.heap.size≤b) (ho:OwnT w.heap.size w' v l) (hb:Below w.heap.size w w'):Step3Post a0 r w e w':=by
 subst hp; exact ⟨a,cap,v,he,hs,hA,ho,hb⟩
theorem pre_err {s:St} {a:Option Addr} {cap:Nat} {c:Cmd} {w w2 w':World} {f:Int} (hp:ppreempt s c=(s,[],f)) (hr:StR w s a) (hb:Below w.heap.size w w2) (k:Keeps (·=w.heap.size+1+1) w2 w') :
  Step3Post a (ppreempt s c) w (.returned (.tuple #[.agg #[.int .i64 s.gen,.slice a s.regs.length cap,.int .i64 s.typ,.int .i64 s.holder,.bool s.stays],.slice none 0 0,errV f])) w':=by
 have hb':=hb.trans (k.below hb.size (fun m hm=>by omega))
 exact Step3Post.mk hp rfl (hr.below hb') (.inl rfl) (own_none _ _) hb'
theorem out_x (s:St) (a:Option Addr) (cap:Nat) (who key:Int) (w:World) (hr:StR w s a) (hl:LFo s.regs 40) (G:List Int) (L:List (Int × Int)) (hG:goneL who key s.regs=G) (hL:putOut s.regs G=L) :
  Calls Tryz.prog 149 #[stV s a cap,.int .i64 who,.int .i64 key] w fun e w'=>∃ a' c' ag cg,e=.returned (.tuple #[.agg #[.int .i64 s.gen,.slice a' L.length c',.int .i64 s.typ,.int .i64 s.holder,.bool s.stays],.slice ag G.length cg]) ∧
   StR w' ⟨s.gen,L,s.typ,s.holder,s.stays⟩ a'∧(a'=a∨∀ b o,a'=some ⟨b,o,none⟩→w.heap.size≤b)∧HiI w.heap.size w' ag G∧Below w.heap.size w w':=by
 subst hG hL
 refine (out_any s a cap who key w hr hl).mono ?_
 rintro e w' ⟨a',c',v,rfl,h1,h2,h3,h4⟩
 obtain ⟨ag,cg,rfl,-⟩:=h3.shape
 exact ⟨a',c',ag,cg,rfl,h1,h2,h3.hi,h4⟩
theorem keep_pre {w5:World} {b N:Nat} {v0 v1 v2 v3 v4:Value} {T:TypeId} (hb:b≠N) (h:w5.heap[b]?=some (.cells #[v0,v1,v2,v3,v4] T (0,0))) :
  ∀ w',Keeps (·=N) w5 w'→Keeps (·=N) w5 w'∧w'.cell? ⟨b,0,none⟩=some v0∧w'.cell? ⟨b,1,none⟩=some v1∧w'.cell? ⟨b,2,none⟩=some v2∧w'.cell? ⟨b,3,none⟩=some v3∧w'.cell? ⟨b,4,none⟩=some v4:=by
 intro w' k
 obtain ⟨⟨d0,d1,d2,d3,d4⟩,-⟩:=box5 (Below.refl (b+1) w') (by omega) ((k.block b hb (Array.getElem?_eq_some_iff.1 h).1).trans h)
 exact ⟨k,d0,d1,d2,d3,d4⟩
theorem str_apart {w w':World} {s:St} {a a0:Option Addr} {N B B0:Nat} {s0:St} (h:StR w s a) (hA:a=a0∨∀ b o,a=some ⟨b,o,none⟩→B≤b) (h0:Pairs B0 w a0 s0.regs) (hl:s.regs.length≤s0.regs.length) (hB0:B0≤N) (hB:N<B) (k:Keeps (·=N) w w'):StR w' s a:=by
 refine ⟨h.len,fun i hi=>?_⟩
 obtain ⟨b,o,e,hb,c1,c2⟩:=h.rep i hi
 have hn:b≠N:=by
  rcases hA with rfl | hA
  ·obtain ⟨b',o',e',hb',-⟩:=h0 i (by omega)
   rw [e] at e'
   cases e'
   omega
  ·have:=hA b o e; omega
 exact ⟨b,o,e,Nat.lt_of_lt_of_le hb k.size,by rw [k.cell hn hb]; exact c1,by rw [k.cell hn hb]; exact c2⟩
theorem own_cap {B:Nat} {w:World} {a:Option Addr} {l:List (Int × Int)} {n c:Nat} (h:OwnT B w (.slice a n c) l):l.length≤c:=by
 obtain ⟨h1,h2⟩:=h
 rcases h2 with ⟨e,hn⟩ | ⟨g,cap,cur,e,hg,hh,hc,hm,hs,ht⟩
 ·omega
 ·cases e; exact hc
theorem own_app {B:Nat} {w:World} {v:Value} {T Y:List (Int × Int)} (h:w.ownsRow B 162 2 v (T.length+Y.length) (pcells T ++ pcells Y)):OwnT B w v (T ++ Y):=by
 unfold OwnT; rw [pcells_append,List.length_append]; exact h
theorem str_lt {w w':World} {s:St} {a:Option Addr} (h:StR w s a) (k:Keeps (·=w.heap.size) w w'):StR w' s a :=
 h.below (k.below (Nat.le_refl _) (fun m hm=>by omega))
theorem putOut_len (l:List (Int × Int)) (G:List Int):(putOut l G).length≤l.length:=by rw [putOut_filter]; exact List.length_filter_le _ _
theorem LFo.putOut {l:List (Int × Int)} {n:Nat} (h:LFo l n) (G:List Int):LFo (Go.Proofs.YtajegiifabfcjaaGreatDoor.putOut l G) n:=by
 refine ⟨Nat.le_trans (putOut_len l G) h.len,?_,?_⟩ <;> rw [putOut_filter]
 ·exact fun r hr=>h.bound r (List.mem_filter.1 hr).1
 ·exact h.sort.sublist List.filter_sublist
theorem pre_fin {s:St} {a a3:Option Addr} {c3:Nat} {c:Cmd} {w w7 w':World} {L l:List (Int × Int)} {t h t0 h0:Int} {v:Value} {B Bo:Nat} (hp:ppreempt s c=(⟨s.gen,L,t,h,s.stays⟩,l,0)) (hr:StR w s a) (hlen:L.length≤s.regs.length)
  (hs:StR w7 ⟨s.gen,L,t0,h0,s.stays⟩ a3) (hA:a3=a∨∀ b o,a3=some ⟨b,o,none⟩→B≤b) (hB:w.heap.size+1+1<B) (B7:Below w.heap.size w w7) (ho:OwnT Bo w7 v l) (hBo:w.heap.size+1+1<Bo) (k:Keeps (·=w.heap.size+1+1) w7 w') :
  Step3Post a (ppreempt s c) w (.returned (.tuple #[.agg #[.int .i64 s.gen,.slice a3 L.length c3,.int .i64 t,.int .i64 h,.bool s.stays],v,.nilIface])) w' :=
 Step3Post.mk hp rfl (str_any (str_apart (s0:=s) hs hA (hr.rep.below B7 (Nat.le_refl _)) hlen (by omega) hB k) _ rfl) (hA.imp id (fun h b o e=>by have:=h b o e; omega)) ((ho.keeps k (fun m hm=>by omega)).mono (by omega)) (B7.trans (k.below B7.size (fun m hm=>by omega)))
theorem str_below2 {w3 w4 w5:World} {s:St} {a:Option Addr} (h:StR w3 s a) (h4:Below w3.heap.size w3 w4) (h5:Below w4.heap.size w4 w5):StR w5 s a:=(h.below h4).below h5
set_option maxRecDepth 100000 in
set_option maxHeartbeats 4000000 in
theorem preempt_any (s:St) (a:Option Addr) (cap:Nat) (c:Cmd) (w:World) (hr:StR w s a) (hl:LFo s.regs 40) :
  Calls Tryz.prog 123 #[stV s a cap,cmdV c] w (Step3Post a (ppreempt s c) w):=by
 have HR:=Lib.hid hr
 have HL:=Lib.hid hl
 have HR3:=Lib.hid (fun o p q=>hr.below (bal3' w o p q))
 clear hr hl
 obtain ⟨i0,hi,hz0,hz1,hz2⟩:=info_parts Tryz.infoTell
 go_enter Tryz.func123,Tryz.ntmps123
 go_wp2_with fail
 refine (all_any s a cap _).mono ?_
 rintro e w1 ⟨rfl,b1⟩
 have hN:w.heap.size+1+1<w1.heap.size:=by have:=b1.size; simp at this; omega
 have hN0:w.heap.size<w1.heap.size:=by omega
 have hN1:w.heap.size+1<w1.heap.size:=by omega
 obtain ⟨⟨d0,d1,d2,d3,d4⟩,-⟩:=box5 b1 (b:=w.heap.size) (by simp <;> omega) (heap3 w _ _ _).1
 have HC:=Lib.hid ((b1.block (w.heap.size+1) (by simp <;> omega)).trans (heap3 w _ _ _).2.1)
 have k3:w1.cell? ⟨w.heap.size+1,3,none⟩=some (.int .i64 c.new):=by simp [World.cell?,HC.out]
 have B1:=Lib.hid ((bal3' w _ _ _).trans (b1.mono (bal3' w _ _ _).size))
 have HZ:=Lib.hid ((b1.block (w.heap.size+1+1) (by simp <;> omega)).trans (heap3 w _ _ _).2.2)
 have HS1:=Lib.hid ((b1.block w.heap.size (by simp <;> omega)).trans (heap3 w _ _ _).1)
 clear b1
 have HRQ:=Lib.hid (fun (d:Nat) (os:Array Obj)=>(HR.out.below B1.out).below (below_regrown w1 d os))
 go_upto_region 2 with fail
 go_cut [7,8] (fun _ v wx=>v=.bool (ptakes s c)∧Below w1.heap.size w1 wx)
 case first =>
  have hq:=bregrown (Below.refl w1.heap.size w1)
  cases hA:allT s.typ
  ·by_cases hp:0<s.typ
   ·have PT:=Lib.hid (show ptakes s c=decide (keyOf s.regs s.holder=c.new) from by simp [ptakes,hA,hp])
    clear hA
    refine wp_region_quiet_below (by kernel_rfl) (by kernel_rfl) ?_
    repeat (go_big_quiet_step (exact Calls.regrown_of (key_any s a cap s.holder _ (HRQ.out _ _))))
    refine wpQuiet_nil ?_
    rintro w' ⟨⟨dq,osq⟩,rfl⟩
    go_wp2_with fail
    go_meet
    exact ⟨by rw [PT.out]; rfl,below_regrown _ dq osq⟩
   ·have PT:=Lib.hid (show ptakes s c=false from by simp [ptakes,hA,hp])
    clear hA
    refine wp_region_quiet_below (by kernel_rfl) (by kernel_rfl) ?_
    repeat (go_big_quiet_step (fail))
    refine wpQuiet_nil ?_
    rintro w' ⟨⟨dq,osq⟩,rfl⟩
    go_wp2_with fail
    go_meet
    exact ⟨by rw [PT.out],below_regrown _ dq osq⟩
  ·have hp:0<s.typ:=by simp [allT] at hA; omega
   by_cases hn:c.new=0
   ·have PT:=Lib.hid (show ptakes s c=true from by simp [ptakes,hA,hn])
    have hnb:(c.new == 0)=true:=by simp [hn]
    clear hA hn
    refine wp_region_quiet_below (by kernel_rfl) (by kernel_rfl) ?_
    repeat (go_big_quiet_step (fail))
    refine wpQuiet_nil ?_
    rintro w' ⟨⟨dq,osq⟩,rfl⟩
    go_wp2_with fail
    go_meet
    exact ⟨by rw [PT.out],below_regrown _ dq osq⟩
   ·have PT:=Lib.hid (show ptakes s c=false from by simp [ptakes,hA,hn])
    have hnb:(c.new == 0)=false:=by simp [hn]
    clear hA hn
    refine wp_region_quiet_below (by kernel_rfl) (by kernel_rfl) ?_
    repeat (go_big_quiet_step (fail))
    refine wpQuiet_nil ?_
    rintro w' ⟨⟨dq,osq⟩,rfl⟩
    go_wp2_with fail
    go_meet
    exact ⟨by rw [PT.out],below_regrown _ dq osq⟩
 case rest =>
  obtain ⟨rfl,b2⟩:=hcut
  have HR2:=Lib.hid ((HR.out.below B1.out).below b2)
  have hM:w.heap.size+1+1<wc.heap.size:=Nat.lt_of_lt_of_le hN b2.size
  have hM0:w.heap.size<wc.heap.size:=by omega
  have hM1:w.heap.size+1<wc.heap.size:=by omega
  have HC2:=Lib.hid ((b2.block _ hN1).trans HC.out)
  have HZ2:=Lib.hid ((b2.block _ hN).trans HZ.out)
  have HS2:=Lib.hid ((b2.block _ hN0).trans HS1.out)
  have B2:=Lib.hid (B1.out.trans (b2.mono B1.out.size))
  clear b2 d0 d1 d2 d3 d4 k3 hN hN0 hN1 HRQ HR3 HC HZ HS1 B1
  obtain ⟨⟨d0,d1,d2,d3,d4⟩,-⟩:=box5 (Below.refl wc.heap.size wc) hM0 HS2.out
  obtain ⟨⟨z0,z1,z2,z3,z4⟩,y0,y1,y2,y3,y4⟩:=box5 (Below.refl wc.heap.size wc) hM HZ2.out
  have k1:wc.cell? ⟨w.heap.size+1,1,none⟩=some (.int .i64 c.who):=by simp [World.cell?,HC2.out]
  have k3:wc.cell? ⟨w.heap.size+1,3,none⟩=some (.int .i64 c.new):=by simp [World.cell?,HC2.out]
  have HPT:=Lib.hid (show ppreempt s c=ppreempt s c from rfl)
  by_cases h5:c.new=0∧ptakes s c=false
  ·have P1:=Lib.hid (show ppreempt s c=(s,[],5) from by unfold ppreempt; rw [if_pos h5])
   obtain ⟨hn,ht⟩:=h5
   have hnb:(c.new == 0)=true:=by simp [hn]
   rw [ht]
   clear hn ht
   go_wp2
   refine bodyPost_ret (v:=.tuple #[.agg #[.int .i64 s.gen,.slice a s.regs.length cap,.int .i64 s.typ,.int .i64 s.holder,.bool s.stays],.slice none 0 0,.iface 95 (.int .i64 5)]) (by simp [results,Tryz.results123,go_sem, *]) rfl ?_
   refine pre_err P1.out HR.out B2.out ?_
   repeat (first | with_reducible exact Keeps.refl _ _ | (with_reducible refine Keeps.drew ?_) | (with_reducible refine keeps_set ?_ _ _))
  obtain ⟨G,hG⟩:∃ G,goneL c.who c.new s.regs=G:=⟨_,rfl⟩
  obtain ⟨L,hL⟩:∃ L,putOut s.regs G=L:=⟨_,rfl⟩
  have HP0:=Lib.hid (show ppreempt s c=(if ptakes s c=false then
    if G.length=0∧keyOf s.regs c.who≠c.new then (s,[],4) else (⟨s.gen,L,s.typ,s.holder,s.stays⟩,toldL G 1,0)
   else (⟨s.gen,L,c.typ,if allT c.typ then 0 else c.who,s.stays⟩,toldL G 1 ++ (if s.typ≠c.typ then toldL (othersL c.who L) 2 else []),0)) from by
    unfold ppreempt; rw [if_neg h5,← hL,← hG]; rfl)
  have HG:=Lib.hid hG
  have HL':=Lib.hid hL
  have HGL:=Lib.hid (show G.length≤40∧LFo L 40∧L.length≤s.regs.length from ⟨hG▸Nat.le_trans (gone_len _ _ _) HL.out.len,hL▸HL.out.putOut G,hL▸putOut_len _ _⟩)
  have H5:=Lib.hid h5
  have hgl:G.length≤40:=HGL.out.1
  clear hG hL h5
  go_upto_region 3 with fail
  go_cut [8,44] (fun u v wx=>u=.bool (ptakes s c)∧v=.bool false∧wx=wc)
  case first =>
   by_cases hn:c.new=0
   ·have hnb:(c.new == 0)=true:=by simp [hn]
    have ht:ptakes s c=true:=by
     cases h:ptakes s c
     ·exact absurd ⟨hn,h⟩ H5.out
     ·rfl
    clear hn
    have HT:=Lib.hid ht
    go_wp2_with fail
    go_meet
    exact ⟨by rw [HT.out],rfl,rfl⟩
   ·have hnb:(c.new == 0)=false:=by simp [hn]
    clear hn
    go_wp2_with fail
    go_meet
    exact ⟨rfl,rfl,rfl⟩
  case rest =>
   obtain ⟨rfl,rfl,rfl⟩:=hcut
   go_wp2_with fail
   refine (out_x s a cap c.who c.new _ HR2.out HL.out G L HG.out HL'.out).mono ?_
   rintro e w3 ⟨a3,c3,ag,cg,rfl,hs3,ha3,hi3,hb3⟩
   have B3:=Lib.hid (B2.out.trans (hb3.mono B2.out.size))
   have hM3:w.heap.size+1+1<w3.heap.size:=Nat.lt_of_lt_of_le hM hb3.size
   have HB3:=Lib.hid hb3
   have HS3:=Lib.hid hs3
   have HA3:=Lib.hid ha3
   have HI3:=Lib.hid hi3
   clear d0 d1 d2 d3 d4 z0 z1 z2 z3 z4 y0 y1 y2 y3 y4 k1 k3 hb3 hs3 ha3 hi3
   have HSw:=Lib.hid ((HB3.out.block _ hM0).trans HS2.out)
   have HCw:=Lib.hid ((HB3.out.block _ hM1).trans HC2.out)
   have HZw:=Lib.hid ((HB3.out.block _ hM).trans HZ2.out)
   cases ht:ptakes s c
   ·have HP1:=Lib.hid (HP0.out.trans (if_pos ht))
    clear ht HP0
    have HW4:=Lib.hid (bal w3 (.cells #[.int .i64 s.gen,.slice a3 L.length c3,.int .i64 s.typ,.int .i64 s.holder,.bool s.stays] 35))
    go_upto_region 7 with fail
    obtain ⟨w4,hw4⟩:∃ w4,w4=w3.alloc (.cells #[.int .i64 s.gen,.slice a3 L.length c3,.int .i64 s.typ,.int .i64 s.holder,.bool s.stays] 35):=⟨_,rfl⟩
    have HT4:=Lib.hid (show w4.heap[w3.heap.size]?=some (.cells #[.int .i64 s.gen,.slice a3 L.length c3,.int .i64 s.typ,.int .i64 s.holder,.bool s.stays] 35 (0,0)) from hw4▸heap_alloc_new _ _)
    rw [← hw4] at HW4 ⊢
    have hs4:w4.heap.size=w3.heap.size+1:=by rw [hw4]; simp
    have hM4:w.heap.size+1+1<w4.heap.size:=by omega
    have hM40:w.heap.size<w4.heap.size:=by omega
    have hM41:w.heap.size+1<w4.heap.size:=by omega
    have hM43:w3.heap.size<w4.heap.size:=by omega
    have Hs4:=Lib.hid hs4
    clear hs4 hw4
    obtain ⟨⟨d0,d1,d2,d3,d4⟩,-⟩:=box5 (Below.refl w4.heap.size w4) hM40 ((HW4.out.block _ (by omega)).trans HSw.out)
    have HC4:=Lib.hid ((HW4.out.block _ (by omega)).trans HCw.out)
    have k1:w4.cell? ⟨w.heap.size+1,1,none⟩=some (.int .i64 c.who):=by simp [World.cell?,HC4.out]
    have k3:w4.cell? ⟨w.heap.size+1,3,none⟩=some (.int .i64 c.new):=by simp [World.cell?,HC4.out]
    have B4:=Lib.hid (B3.out.trans (HW4.out.mono B3.out.size))
    have HRQ4:=Lib.hid (fun (d:Nat) (os:Array Obj)=>(HR.out.below B4.out).below (below_regrown w4 d os))
    go_cut [69] (fun v wx=>v=.bool (decide (G.length=0∧keyOf s.regs c.who≠c.new))∧Below w4.heap.size w4 wx)
    case first =>
     have hq:=bregrown (Below.refl w4.heap.size w4)
     by_cases hg:G.length=0
     ·have hgb:((G.length:Int) == 0)=true:=by rw [beq_iff_eq]; omega
      have PD:=Lib.hid (show decide (G.length=0∧keyOf s.regs c.who≠c.new)=(keyOf s.regs c.who != c.new) from by rw [Bool.eq_iff_iff]; simp [hg])
      clear hg
      refine wp_region_quiet_below (by kernel_rfl) (by kernel_rfl) ?_
      repeat (go_big_quiet_step (exact Calls.regrown_of (key_any s a cap c.who _ (HRQ4.out _ _))))
      refine wpQuiet_nil ?_
      rintro w' ⟨⟨dq,osq⟩,rfl⟩
      go_wp2_with fail
      go_meet
      exact ⟨by rw [PD.out],below_regrown _ dq osq⟩
     ·have hgb:((G.length:Int) == 0)=false:=by rw [beq_eq_false_iff_ne]; omega
      have PD:=Lib.hid (show decide (G.length=0∧keyOf s.regs c.who≠c.new)=false from decide_eq_false (fun h=>hg h.1))
      clear hg
      refine wp_region_quiet_below (by kernel_rfl) (by kernel_rfl) ?_
      repeat (go_big_quiet_step (fail))
      refine wpQuiet_nil ?_
      rintro w' ⟨⟨dq,osq⟩,rfl⟩
      go_wp2_with fail
      go_meet
      exact ⟨by rw [PD.out],below_regrown _ dq osq⟩
    case rest =>
     obtain ⟨rfl,b5⟩:=hcut
     have hM5:w.heap.size+1+1<wc.heap.size:=Nat.lt_of_lt_of_le hM4 b5.size
     have hM53:w3.heap.size<wc.heap.size:=Nat.lt_of_lt_of_le hM43 b5.size
     have HS5:=Lib.hid ((b5.block _ hM40).trans ((HW4.out.block _ (by omega)).trans HSw.out))
     have HZ5:=Lib.hid ((b5.block _ hM4).trans ((HW4.out.block _ (by omega)).trans HZw.out))
     have HT5:=Lib.hid ((b5.block _ hM43).trans HT4.out)
     have B5:=Lib.hid (B4.out.trans (b5.mono B4.out.size))
     have HI5:=Lib.hid ((HI3.out.keeps (Keeps.of_below (S:=(·=w.heap.size+1+1)) HW4.out) (fun m hm=>by omega)).keeps (Keeps.of_below (S:=(·=w.heap.size+1+1)) b5) (fun m hm=>by omega))
     have HSt5:=Lib.hid (str_below2 HS3.out HW4.out b5)
     obtain ⟨⟨e0,e1,e2,e3,e4⟩,-⟩:=box5 (Below.refl wc.heap.size wc) (by omega) HS5.out
     obtain ⟨⟨z0,z1,z2,z3,z4⟩,y0,y1,y2,y3,y4⟩:=box5 (Below.refl wc.heap.size wc) hM5 HZ5.out
     obtain ⟨⟨t0,t1,t2,t3,t4⟩,-⟩:=box5 (Below.refl wc.heap.size wc) hM53 HT5.out
     clear b5 d0 d1 d2 d3 d4 k1 k3
     by_cases hc:G.length=0∧keyOf s.regs c.who≠c.new
     ·have P1:=Lib.hid (HP1.out.trans (if_pos hc))
      have hcb:decide (G.length=0∧keyOf s.regs c.who≠c.new)=true:=decide_eq_true hc
      rw [hcb]
      clear hc hcb
      go_wp2
      refine bodyPost_ret (v:=.tuple #[.agg #[.int .i64 s.gen,.slice a s.regs.length cap,.int .i64 s.typ,.int .i64 s.holder,.bool s.stays],.slice none 0 0,.iface 95 (.int .i64 4)]) (by simp [results,Tryz.results123,go_sem, *]) rfl ?_
      refine pre_err P1.out HR.out B5.out ?_
      repeat (first | with_reducible exact Keeps.refl _ _ | (with_reducible refine Keeps.drew ?_) | (with_reducible refine keeps_set ?_ _ _))
     ·have P1:=Lib.hid (HP1.out.trans (if_neg hc))
      have hcb:decide (G.length=0∧keyOf s.regs c.who≠c.new)=false:=decide_eq_false hc
      rw [hcb]
      clear hc hcb
      have HIN:=Lib.hid (fun (w':World) (k:Keeps (·=w.heap.size+1+1) wc w')=>(HI5.out.keeps k (fun m hm=>by omega)).ints)
      have KEEP:=Lib.hid (keep_pre (N:=w.heap.size+1+1) (b:=w3.heap.size) (by omega) HT5.out)
      go_wp2
      go_region_held3 (fun w'=>Keeps (·=w.heap.size+1+1) wc w'∧w'.cell? ⟨w3.heap.size,0,none⟩=some (.int .i64 s.gen)∧w'.cell? ⟨w3.heap.size,1,none⟩=some (.slice a3 L.length c3)∧w'.cell? ⟨w3.heap.size,2,none⟩=some (.int .i64 s.typ)∧w'.cell? ⟨w3.heap.size,3,none⟩=some (.int .i64 s.holder)∧w'.cell? ⟨w3.heap.size,4,none⟩=some (.bool s.stays))
       ((refine KEEP.out _ ?_; repeat (first | with_reducible exact And.left (by with_reducible assumption) | exact (Keeps.refl _ _).drew | (with_reducible refine keeps_set ?_ _ _) | exact Keeps.trans (And.left (by assumption)) (Keeps.of_below (by assumption)))))
       ((go_at_call 120; (with_reducible refine (told_any _ ag cg 1 _ (by omega) (HIN.out _ (And.left (by assumption)))).mono ?_); rintro e w7 ⟨v7,rfl,ho7,hb7⟩; have H57:Below wc.heap.size wc w7:=((Below.refl _ _).drew).trans hb7; obtain ⟨⟨p0,p1,p2,p3,p4⟩,q0,q1,q2,q3,q4⟩:=box5 H57 (b:=w.heap.size+1+1) hM5 HZ5.out))
      go_wp2
      refine bodyPost_ret (v:=.tuple #[.agg #[.int .i64 s.gen,.slice a3 L.length c3,.int .i64 s.typ,.int .i64 s.holder,.bool s.stays],v7,.nilIface]) (by simp [results,Tryz.results123,go_sem, *]) rfl ?_
      refine pre_fin P1.out HR.out HGL.out.2.2 (HSt5.out.below H57) HA3.out hM (B5.out.trans (H57.mono B5.out.size)) ho7 (by simpa using hM5) ?_
      repeat (first | with_reducible exact Keeps.refl _ _ | (with_reducible refine Keeps.drew ?_) | (with_reducible refine keeps_set ?_ _ _))
   ·have HP1:=Lib.hid (HP0.out.trans (if_neg (by rw [ht]; simp)))
    clear ht HP0
    have HW4:=Lib.hid (bal w3 (.cells #[.int .i64 s.gen,.slice a3 L.length c3,.int .i64 s.typ,.int .i64 s.holder,.bool s.stays] 35))
    go_upto_region 10 with fail
    obtain ⟨w4,hw4⟩:∃ w4,w4=w3.alloc (.cells #[.int .i64 s.gen,.slice a3 L.length c3,.int .i64 s.typ,.int .i64 s.holder,.bool s.stays] 35):=⟨_,rfl⟩
    have HT4:=Lib.hid (show w4.heap[w3.heap.size]?=some (.cells #[.int .i64 s.gen,.slice a3 L.length c3,.int .i64 s.typ,.int .i64 s.holder,.bool s.stays] 35 (0,0)) from hw4▸heap_alloc_new _ _)
    rw [← hw4] at HW4 ⊢
    have hs4:w4.heap.size=w3.heap.size+1:=by rw [hw4]; simp
    have hM4:w.heap.size+1+1<w4.heap.size:=by omega
    have hM40:w.heap.size<w4.heap.size:=by omega
    have hM41:w.heap.size+1<w4.heap.size:=by omega
    have hM43:w3.heap.size<w4.heap.size:=by omega
    have Hs4:=Lib.hid hs4
    clear hs4 hw4
    have HS4:=Lib.hid ((HW4.out.block _ (by omega)).trans HSw.out)
    have HC4:=Lib.hid ((HW4.out.block _ (by omega)).trans HCw.out)
    have HZ4:=Lib.hid ((HW4.out.block _ (by omega)).trans HZw.out)
    have B4:=Lib.hid (B3.out.trans (HW4.out.mono B3.out.size))
    have HI4:=Lib.hid (HI3.out.keeps (Keeps.of_below (S:=(·=w.heap.size+1+1)) HW4.out) (fun m hm=>by omega))
    go_wp2_with fail
    refine (told_any _ ag cg 1 _ (by omega) HI4.out.ints).mono ?_
    rintro e w5 ⟨v5,rfl,ho5,hb5⟩
    obtain ⟨a5,c5,rfl,-⟩:=ho5.shape
    have HO5:=Lib.hid ho5
    have HB5:=Lib.hid hb5
    have hM5:w.heap.size<w5.heap.size:=Nat.lt_of_lt_of_le hM40 hb5.size
    have hM51:w.heap.size+1<w5.heap.size:=Nat.lt_of_lt_of_le hM41 hb5.size
    have hM53:w3.heap.size<w5.heap.size:=Nat.lt_of_lt_of_le hM43 hb5.size
    obtain ⟨⟨e0,e1,e2,e3,e4⟩,-⟩:=box5 hb5 hM40 HS4.out
    obtain ⟨⟨t0,t1,t2,t3,t4⟩,-⟩:=box5 hb5 hM43 HT4.out
    have HC5:=Lib.hid ((hb5.block _ hM41).trans HC4.out)
    have k1:w5.cell? ⟨w.heap.size+1,1,none⟩=some (.int .i64 c.who):=by simp [World.cell?,HC5.out]
    have k4:w5.cell? ⟨w.heap.size+1,4,none⟩=some (.int .i64 c.typ):=by simp [World.cell?,HC5.out]
    clear ho5 hb5
    obtain ⟨T,hT⟩:∃ T,toldL G 1=T:=⟨_,rfl⟩
    rw [hT] at HO5 ⊢
    have HTT:=Lib.hid hT
    clear hT
    obtain ⟨X,hX⟩:∃ X,T ++ (if s.typ≠c.typ then toldL (othersL c.who L) 2 else [])=X:=⟨_,rfl⟩
    have HX:=Lib.hid hX
    clear hX
    go_upto_if 81 with fail
    go_cut [11] (fun v wx=>∃ a9 c9,v=.slice a9 X.length c9∧OwnT w4.heap.size wx v X∧Below w4.heap.size w4 wx)
    case first =>
     by_cases he:s.typ=c.typ
     ·have heb:(s.typ != c.typ)=false:=by simp [he]
      have HX1:=Lib.hid (show X=T from by rw [← HX.out,if_neg (by simpa using he),List.append_nil])
      clear he
      go_wp2_with fail
      go_meet
      exact ⟨a5,c5,by rw [HX1.out],by rw [HX1.out]; exact HO5.out,HB5.out⟩
     ·have heb:(s.typ != c.typ)=true:=by simp [he]
      obtain ⟨O,hO⟩:∃ O,othersL c.who L=O:=⟨_,rfl⟩
      have hol:O.length≤40:=by have:=others_len c.who L L.length; rw [List.take_length,hO] at this; have:=HGL.out.2.1.len; omega
      have HO:=Lib.hid hO
      have HX1:=Lib.hid (show X=T ++ toldL O 2 from by rw [← HX.out,if_pos he,hO])
      clear hO he
      go_wp2_with fail
      refine (others_x s.gen L s.typ s.holder s.stays a3 c3 c.who _ ((HS3.out.below HW4.out).below HB5.out) (by have:=HGL.out.2.1.len; omega) O HO.out).mono ?_
      rintro e w6 ⟨a6,c6,rfl,hi6,hb6⟩
      go_wp2_with fail
      refine (told_any O a6 c6 2 _ (by omega) hi6).mono ?_
      rintro e w7 ⟨v7,rfl,ho7,hb7⟩
      obtain ⟨Y,hY⟩:∃ Y,toldL O 2=Y:=⟨_,rfl⟩
      have hyl:Y.length≤40:=by rw [← hY]; simp [toldL]; omega
      rw [hY] at ho7 HX1
      clear hY
      obtain ⟨a7,c7,rfl,hp7⟩:=ho7.shape
      have tl0:T.length≤40:=by rw [← HTT.out]; simpa [toldL] using hgl
      have hb57:Below w5.heap.size w5 w7:=hb6.trans (hb7.mono hb6.size)
      have HO7:=Lib.hid (HO5.out.below hb57)
      have hcap:T.length≤c5:=own_cap HO5.out
      have hb47:Below w4.heap.size w4 w7:=HB5.out.trans (hb57.mono HB5.out.size)
      by_cases e0:Y.length=0
      ·have HX2:=Lib.hid (show X=T from by rw [HX1.out,List.length_eq_zero_iff.1 e0,List.append_nil])
       rw [e0]
       clear e0
       go_wp2_with (at_builtin; refine wpList_append_empty rfl _ _ 78 rfl 162 i0 Tryz.underlying78 hi a5 T.length c5 hcap a7 c7 rfl rfl ?_)
       go_meet
       exact ⟨a5,c5,by rw [HX2.out],by rw [HX2.out]; exact HO7.out,hb47⟩
      ·have hp:∃ b o,a7=some ⟨b,o,none⟩:=by
        obtain ⟨b,o,e,-⟩:=hp7 0 (by omega)
        exact ⟨b,o,e⟩
       obtain ⟨b,o,rfl⟩:=hp
       go_wp2_with (at_builtin; refine wpList_append_own _ rfl _ _ 78 rfl w4.heap.size 162 i0 (.agg #[.int .i64 0,.int .i64 0]) 2 16 Tryz.underlying78 hi hz0 hz1 hz2 rfl (by decide) _ _ _ rfl HO7.out ⟨b,o,none⟩ Y.length c7 (pcells Y) rfl (pcells_length _) (pairs_cells hp7) (pcells_one _) ?c3 ?c4 ?c5 ?_)
       case c3=>unfold maxLen; omega
       case c4=>omega
       case c5=>exact hb47.size
       intro v' w8 hown8 hg8 _
       have hb48:Below w4.heap.size w4 w8:=hb47.grown hg8 hb47.size HO7.out.blk
       have ho8:OwnT w4.heap.size w8 v' X:=by rw [HX1.out]; exact own_app hown8
       obtain ⟨a9,c9,rfl,-⟩:=ho8.shape
       have HO8:=Lib.hid ho8
       clear hown8 hg8 ho8
       go_wp2_with fail
       go_meet
       exact ⟨a9,c9,rfl,HO8.out,hb48⟩
    case rest =>
     obtain ⟨a9,c9,rfl,ho9,hb9⟩:=hcut
     have HO9:=Lib.hid ho9
     have HB9:=Lib.hid hb9
     have HP2:=Lib.hid (show ppreempt s c=(⟨s.gen,L,c.typ,if allT c.typ then 0 else c.who,s.stays⟩,X,0) from by rw [HP1.out,← HX.out,HTT.out])
     have hN9:w3.heap.size<wc.heap.size:=Nat.lt_of_lt_of_le hM43 hb9.size
     have hN91:w.heap.size+1<wc.heap.size:=Nat.lt_of_lt_of_le hM41 hb9.size
     have hN92:w.heap.size+1+1<wc.heap.size:=Nat.lt_of_lt_of_le hM4 hb9.size
     have HT9:=Lib.hid ((hb9.block _ hM43).trans HT4.out)
     have HC9:=Lib.hid ((hb9.block _ hM41).trans HC4.out)
     have HZ9:=Lib.hid ((hb9.block _ hM4).trans HZ4.out)
     clear ho9 hb9 e0 e1 e2 e3 e4 t0 t1 t2 t3 t4 k1 k4
     go_upto_region 13 with fail
     go_cut [11] (fun v wx=>v=.slice a9 X.length c9∧wx.heap[w3.heap.size]?=some (.cells #[.int .i64 s.gen,.slice a3 L.length c3,.int .i64 0,.int .i64 0,.bool s.stays] 35 (0,0))∧Keeps (·=w3.heap.size) wc wx)
     case first =>
      obtain ⟨⟨t0,t1,t2,t3,t4⟩,-⟩:=box5 (Below.refl wc.heap.size wc) hN9 HT9.out
      go_wp2_with fail
      refine (free_any s.gen L s.typ s.holder s.stays a3 c3 _).mono ?_
      rintro e w8 ⟨rfl,hb8⟩
      have HT8:=Lib.hid ((hb8.block _ hN9).trans HT9.out)
      have KB8:=Lib.hid (Keeps.of_below (S:=(·=w3.heap.size)) hb8)
      obtain ⟨⟨t0,t1,t2,t3,t4⟩,r0,r1,r2,r3,r4⟩:=box5 hb8 hN9 HT9.out
      clear hb8
      go_wp2_with fail
      go_meet
      exact ⟨rfl,block_setCell (block_setCell (block_setCell (block_setCell (block_setCell HT8.out _) _) _) _) _,KB8.out.trans (keeps_set (keeps_set (keeps_set (keeps_set (keeps_set (Keeps.refl _ _) _ _) _ _) _ _) _ _) _ _)⟩
     case rest =>
      obtain ⟨wo,rfl⟩:∃ wo:World,wo=wc:=⟨_,rfl⟩
      obtain ⟨rfl,ht10,hk10⟩:=hcut
      have HT10:=Lib.hid ht10
      have HK10:=Lib.hid hk10
      have hN10:w3.heap.size<wo.heap.size:=Nat.lt_of_lt_of_le hN9 hk10.size
      have hN101:w.heap.size+1<wo.heap.size:=Nat.lt_of_lt_of_le hN91 hk10.size
      have HC10:=Lib.hid ((hk10.block (w.heap.size+1) (by omega) hN91).trans HC9.out)
      clear ht10 hk10
      go_upto_region 14 with fail
      go_cut [11] (fun v wx=>v=.slice a9 X.length c9∧wx.heap[w3.heap.size]?=some (.cells #[.int .i64 s.gen,.slice a3 L.length c3,.int .i64 c.typ,.int .i64 c.who,.bool s.stays] 35 (0,0))∧Keeps (·=w3.heap.size) wo wx)
      case first =>
       obtain ⟨⟨t0,t1,t2,t3,t4⟩,r0,r1,r2,r3,r4⟩:=box5 (Below.refl wo.heap.size wo) hN10 HT10.out
       have k1:wo.cell? ⟨w.heap.size+1,1,none⟩=some (.int .i64 c.who):=by simp [World.cell?,HC10.out]
       have k4:wo.cell? ⟨w.heap.size+1,4,none⟩=some (.int .i64 c.typ):=by simp [World.cell?,HC10.out]
       go_region
       go_wp2_with fail
       go_meet
       exact ⟨rfl,block_setCell (block_setCell HT10.out _) _,(keeps_set (keeps_set (Keeps.refl _ _) _ _) _ _).drew⟩
      case rest =>
       obtain ⟨rfl,ht11,hk11⟩:=hcut
       have HT11:=Lib.hid ht11
       have HK11:=Lib.hid (HK10.out.trans hk11)
       have hN11:w3.heap.size<wc.heap.size:=Nat.lt_of_lt_of_le hN10 hk11.size
       clear ht11 hk11
       obtain ⟨⟨t0,t1,t2,t3,t4⟩,-⟩:=box5 (Below.refl wc.heap.size wc) hN11 HT11.out
       go_wp2_with fail
       refine (all_any ⟨s.gen,L,c.typ,c.who,s.stays⟩ a3 c3 _).mono ?_
       rintro e w12 ⟨rfl,hb12⟩
       have HT12:=Lib.hid ((hb12.block _ hN11).trans HT11.out)
       have HK12:=Lib.hid (HK11.out.trans (Keeps.of_below hb12))
       have hN12:w3.heap.size<w12.heap.size:=Nat.lt_of_lt_of_le hN11 hb12.size
       have hN122:w.heap.size+1+1<w12.heap.size:=Nat.lt_of_lt_of_le hN92 HK12.out.size
       have HZ12:=Lib.hid ((HK12.out.block (w.heap.size+1+1) (by omega) hN92).trans HZ9.out)
       clear t0 t1 t2 t3 t4 hb12
       obtain ⟨⟨t0,t1,t2,t3,t4⟩,r0,r1,r2,r3,r4⟩:=box5 (Below.refl w12.heap.size w12) hN12 HT12.out
       obtain ⟨⟨z0,z1,z2,z3,z4⟩,y0,y1,y2,y3,y4⟩:=box5 (Below.refl w12.heap.size w12) hN122 HZ12.out
       dsimp only
       have HST:=Lib.hid (show StR w12 ⟨s.gen,L,s.typ,s.holder,s.stays⟩ a3 from HS3.out.below (HW4.out.trans ((HB9.out.mono (Nat.le_of_lt hM43)).trans (HK12.out.below (Nat.le_of_lt hN9) (fun m hm=>by omega)))))
       have HBB:=Lib.hid (show Below w.heap.size w w12 from B4.out.trans ((HB9.out.mono (Nat.le_of_lt hM40)).trans (HK12.out.below (by omega) (fun m hm=>by omega))))
       have HOO:=Lib.hid (HO9.out.keeps HK12.out (fun m hm=>by omega))
       have hne:w3.heap.size≠w.heap.size+1+1:=by omega
       have hne2:w.heap.size+1+1≠w3.heap.size:=by omega
       cases hA:allT c.typ
       ·have HP3:=Lib.hid (show ppreempt s c=(⟨s.gen,L,c.typ,c.who,s.stays⟩,X,0) from by rw [HP2.out,hA]; simp)
        clear hA
        go_wp2
        refine bodyPost_ret (v:=.tuple #[.agg #[.int .i64 s.gen,.slice a3 L.length c3,.int .i64 c.typ,.int .i64 c.who,.bool s.stays],.slice a9 X.length c9,.nilIface]) (by simp [results,Tryz.results123,go_sem, *]) rfl ?_
        refine pre_fin HP3.out HR.out HGL.out.2.2 HST.out HA3.out hM HBB.out HOO.out hM4 ?_
        repeat (first | with_reducible exact Keeps.refl _ _ | (with_reducible refine Keeps.drew ?_) | (with_reducible refine keeps_set ?_ _ _))
       ·have HP3:=Lib.hid (show ppreempt s c=(⟨s.gen,L,c.typ,0,s.stays⟩,X,0) from by rw [HP2.out,hA]; simp)
        clear hA
        go_wp2
        refine bodyPost_ret (v:=.tuple #[.agg #[.int .i64 s.gen,.slice a3 L.length c3,.int .i64 c.typ,.int .i64 0,.bool s.stays],.slice a9 X.length c9,.nilIface]) (by simp [results,Tryz.results123,go_sem, *]) rfl ?_
        have hkz:Keeps (·=w3.heap.size) w12 (w12.setCell ⟨w3.heap.size,3,none⟩ (.int .i64 0)):=keeps_set (Keeps.refl _ _) _ _
        refine pre_fin (w7:=w12.setCell ⟨w3.heap.size,3,none⟩ (.int .i64 0)) HP3.out HR.out HGL.out.2.2 (str_lt HS3.out (Keeps.trans (Keeps.of_below (S:=(·=w3.heap.size)) (HW4.out)) ((Keeps.of_below (S:=(·=w3.heap.size)) HB9.out).trans (HK12.out.trans hkz)))) HA3.out hM (HBB.out.trans (hkz.below HBB.out.size (fun m hm=>by omega))) (HOO.out.keeps hkz (fun m hm=>by omega)) hM4 ?_
        repeat (first | with_reducible exact Keeps.refl _ _ | (with_reducible refine Keeps.drew ?_) | (with_reducible refine keeps_set ?_ _ _))
end Go.Proofs.YtajegiifabfcjaaGreatDoor
