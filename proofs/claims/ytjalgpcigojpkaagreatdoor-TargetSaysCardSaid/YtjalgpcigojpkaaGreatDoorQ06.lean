import Derived.Test.YtjalgpcigojpkaaGreatDoorQ05
import Derived.Deep.DeepCutAuto
set_option maxRecDepth 99999
set_option maxHeartbeats 99999999
namespace Go.Proofs.YtjalgpcigojpkaaGreatDoor
section
open Go.RowKit Go.Sort
theorem mf(P:Program)(w:World)(t ty e:TypeId)(i:TypeInfo)(ht:P.underlying t=some (.slice e))(hi:P.info? e=some i)(base:Option Addr)(n c:Nat)(hn:n<=c)(ad:Option Addr)(c':Nat) : (Builtin.append_ #[t,t] ty #[.slice base n c,.slice ad 0 c']).run P w=.ok (.slice base n c) w:=by
 cases base<;>cases ad<;>simp[Builtin.append_,run_underlying ht,sizeOf,typeInfo,hi,Builtin.lenOf,Builtin.firstCells,loadCells,loadCellsFrom,storeCells,hn]
theorem fG{P:Program}{ops:Array Oper}{rest:List Oper}{o:Oper}{a:Act}{w:World}{Q:Exit->Act->World->Prop}(I9:o.guard=none)(s x:Operand)(t:TypeId)(ho:o.op=.call { callee:=.builtin .append,args:=#[s,x],argTypes:=#[t,t] })(e:TypeId)(i:TypeInfo)(ht:P.underlying t=some (.slice e))(hi:P.info? e=some i)(base:Option Addr)(n c:Nat)(hn:n<=c)(ad:Option Addr)(c':Nat)(hs:a.eval s=.slice base n c)(hx:a.eval x=.slice ad 0 c')(h:wpList P ops Q rest (a.put o.dst (.slice base n c)) w):wpList P ops Q (o :: rest) a w :=
 wpList_plain I9 λ_ hK=>by unfold Oper.wp execOp;simp only[ho,resolve,invoke,builtin,Sem.run_bind,Sem.run_pure,Result.andThen_ok,List.map_toArray,List.map_cons,List.map_nil,hs,hx,mf P w t _ e i ht hi base n c hn ad c'];exact hK _ _ h
def cO(a0:Option Addr)(r:St × List (Int × Int) × Int)(w:World)(e:Ending)(w':World):Prop :=
 ∃a cap v,e=.returned (.tuple #[.agg #[.int .i64 r.1.gen,.slice a r.1.regs.length cap,.int .i64 r.1.typ,.int .i64 r.1.holder,.bool r.1.stays],v,bg r.2.2])/\bj w' r.1 a/\(a=a0\/∀b o,a=some ⟨b,o,none⟩->w.heap.size<=b)/\bT w.heap.size w' v r.2.1/\Below w.heap.size w w'
theorem cO.mk{a0:Option Addr}{r:St × List (Int × Int) × Int}{w w':World}{e:Ending}{t:St}{l:List (Int × Int)}{f:Int}{a:Option Addr}{cap:Nat}{v:Value}(hp:r=(t,l,f))(he:e=.returned (.tuple #[.agg #[.int .i64 t.gen,.slice a t.regs.length cap,.int .i64 t.typ,.int .i64 t.holder,.bool t.stays],v,bg f]))(hs:bj w' t a)(hA:a=a0\/∀b o,a=some ⟨b,o,none⟩->w.heap.size<=b)(ho:bT w.heap.size w' v l)(hb:Below w.heap.size w w'):cO a0 r w e w':=by subst hp; exact⟨a,cap,v,he,hs,hA,ho,hb⟩
theorem xm{s:St}{a:Option Addr}{cap:Nat}{c:bG}{w w2 w':World}{f:Int}(hp:aI s c=(s,[],f))(hr:bj w s a)(hb:Below w.heap.size w w2)(k:ac (·=w.heap.size+1+1) w2 w') : cO a (aI s c) w (.returned (.tuple #[.agg #[.int .i64 s.gen,.slice a s.regs.length cap,.int .i64 s.typ,.int .i64 s.holder,.bool s.stays],.slice none 0 0,bg f])) w':=by
 have Jk:=hb.trans (k.below hb.size (λm hm=>by omega));exact cO.mk hp rfl (hr.below Jk) (.inl rfl) (bI _ _) Jk
theorem Gs(s:St)(a:Option Addr)(cap:Nat)(who key:Int)(w:World)(hr:bj w s a)(hl:sX s.regs 40)(G:List Int)(L:List (Int × Int))(hG:aD who key s.regs=G)(hL:putOut s.regs G=L) :
  Calls Tryz.prog 163 #[dh s a cap,.int .i64 who,.int .i64 key] w λe w'=>∃a' c' ag cg,e=.returned (.tuple #[.agg #[.int .i64 s.gen,.slice a' L.length c',.int .i64 s.typ,.int .i64 s.holder,.bool s.stays],.slice ag G.length cg]) /\
   bj w' ⟨s.gen,L,s.typ,s.holder,s.stays⟩ a'/\(a'=a\/∀b o,a'=some ⟨b,o,none⟩->w.heap.size<=b)/\fB w.heap.size w' ag G/\Below w.heap.size w w':=by
 subst hG hL;refine(D3 s a cap who key w hr hl).mono ?_;rintro e w' ⟨a',c',v,rfl,h1,h2,h3,h4⟩;obtain⟨ag,cg,rfl,-⟩:=h3.shape;exact⟨a',c',ag,cg,rfl,h1,h2,h3.hi,h4⟩
theorem Bw{w5:World}{b N:Nat}{v0 v1 v2 v3 v4:Value}{T:TypeId}(hb:b≠N)(h:w5.heap[b]?=some (.cells #[v0,v1,v2,v3,v4] T (0,0))) : ∀w',ac (·=N) w5 w'->ac (·=N) w5 w'/\w'.cell? ⟨b,0,none⟩=some v0/\w'.cell? ⟨b,1,none⟩=some v1/\w'.cell? ⟨b,2,none⟩=some v2/\w'.cell? ⟨b,3,none⟩=some v3/\w'.cell? ⟨b,4,none⟩=some v4:=by
 intro w' k;obtain⟨⟨d0,d1,d2,d3,d4⟩,-⟩:=bP (Below.refl (b+1) w') (by omega) ((k.block b hb (Gl h)).trans h);exact⟨k,d0,d1,d2,d3,d4⟩
theorem yl{w w':World}{s:St}{a a0:Option Addr}{N B B0:Nat}{s0:St}(h:bj w s a)(hA:a=a0\/∀b o,a=some ⟨b,o,none⟩->B<=b)(h0:bE B0 w a0 s0.regs)(hl:s.regs.length<=s0.regs.length)(hB0:B0<=N)(hB:N<B)(k:ac (·=N) w w'):bj w' s a:=by
 refine⟨h.len,λi hi=>?_⟩;obtain⟨b,o,e,hb,c1,c2⟩:=h.rep i hi
 have hn:b≠N:=by
  rcases hA with rfl | hA
  .obtain⟨b',o',e',Jk,-⟩:=h0 i (by omega);rw[e]at e';cases e'
   omega
  .have:=hA b o e; omega
 exact⟨b,o,e,Nat.lt_of_lt_of_le hb k.size,by rw[k.cell hn hb]; exact c1,by rw[k.cell hn hb]; exact c2⟩
theorem xp{B:Nat}{w:World}{a:Option Addr}{l:List (Int × Int)}{n c:Nat}(h:bT B w (.slice a n c) l):l.length<=c:=by
 obtain⟨h1,h2⟩:=h
 rcases h2 with⟨e,hn⟩ | ⟨g,cap,cur,e,hg,hh,hc,hm,hs,ht⟩
 .omega
 .cases e; exact hc
theorem xq{B:Nat}{w:World}{v:Value}{T Y:List (Int × Int)}(h:w.ownsRow B 120 2 v (T.length+Y.length) (ah T ++ ah Y)):bT B w v (T ++ Y):=by unfold bT; rw[bQ,List.length_append]; exact h
theorem Fb{w w':World}{s:St}{a:Option Addr}(h:bj w s a)(k:ac (·=w.heap.size) w w'):bj w' s a :=
 h.below (k.below (Nat.le_refl _) (λm hm=>by omega))
theorem iJ(l:List (Int × Int))(G:List Int):(putOut l G).length<=l.length:=by rw[dZ]; exact List.length_filter_le _ _
theorem sX.putOut{l:List (Int × Int)}{n:Nat}(h:sX l n)(G:List Int):sX (Go.Proofs.YtjalgpcigojpkaaGreatDoor.putOut l G) n:=by
 refine⟨Nat.le_trans (iJ l G) h.len,?_,?_⟩<;>rw[dZ]
 .exact λr hr=>h.bound r (List.mem_filter.1 hr).1
 .exact h.sort.sublist List.filter_sublist
theorem rS{s:St}{a a3:Option Addr}{c3:Nat}{c:bG}{w w7 w':World}{L l:List (Int × Int)}{t h t0 h0:Int}{v:Value}{B Bo:Nat}(hp:aI s c=(⟨s.gen,L,t,h,s.stays⟩,l,0))(hr:bj w s a)(hlen:L.length<=s.regs.length)(hs:bj w7 ⟨s.gen,L,t0,h0,s.stays⟩ a3)(hA:a3=a\/∀b o,a3=some ⟨b,o,none⟩->B<=b)(hB:w.heap.size+1+1<B)(B7:Below w.heap.size w w7)(ho:bT Bo w7 v l)(hBo:w.heap.size+1+1<Bo)(k:ac (·=w.heap.size+1+1) w7 w') : cO a (aI s c) w (.returned (.tuple #[.agg #[.int .i64 s.gen,.slice a3 L.length c3,.int .i64 t,.int .i64 h,.bool s.stays],v,.nilIface])) w' :=
 cO.mk hp rfl (db (yl (s0:=s) hs hA (hr.rep.below B7 (Nat.le_refl _)) hlen (by omega) hB k) _ rfl) (hA.imp id (λh b o e=>by have:=h b o e; omega)) ((ho.keeps k (λm hm=>by omega)).mono (by omega)) (B7.trans (k.below B7.size (λm hm=>by omega)))
theorem vr{w3 w4 w5:World}{s:St}{a:Option Addr}(h:bj w3 s a)(h4:Below w3.heap.size w3 w4)(h5:Below w4.heap.size w4 w5):bj w5 s a:=(h.below h4).below h5
theorem uj(s:St)(a:Option Addr)(cap:Nat)(c:bG)(w:World)(hr:bj w s a)(hl:sX s.regs 40) : Calls Tryz.prog 133 #[dh s a cap,eX c] w (cO a (aI s c) w):=by
 have HR:=Hx hr;have HL:=Hx hl;have HR3:=Hx (λo p q=>hr.below (dt w o p q));clear hr hl;obtain⟨i0,hi,Ij,Ii,Im⟩:=info_parts Tryz.infoTell;go_enter Tryz.func133,Tryz.ntmps133
 go_wp2_with fail;refine(cS s a cap _).mono ?_;rintro e w1 ⟨rfl,b1⟩
 have hN:w.heap.size+1+1<w1.heap.size:=by have:=b1.size; simp at this; omega
 have hN0:w.heap.size<w1.heap.size:=by omega
 have hN1:w.heap.size+1<w1.heap.size:=by omega
 obtain⟨⟨d0,d1,d2,d3,d4⟩,-⟩:=bP b1 (b:=w.heap.size) (by simp<;>omega) (aO w _ _ _).1;have HC:=Hx ((b1.block (w.heap.size+1) (by simp<;>omega)).trans (aO w _ _ _).2.1)
 have k3:w1.cell? ⟨w.heap.size+1,3,none⟩=some (.int .i64 c.new):=by simp[World.cell?,HC.out]
 have B1:=Hx ((dt w _ _ _).trans (b1.mono (dt w _ _ _).size));have HZ:=Hx ((b1.block (w.heap.size+1+1) (by simp<;>omega)).trans (aO w _ _ _).2.2);have HS1:=Hx ((b1.block w.heap.size (by simp<;>omega)).trans (aO w _ _ _).1);clear b1;have HRQ:=Hx (λ(d:Nat) (os:Array Obj)=>(HR.out.below B1.out).below (below_regrown w1 d os));go_upto_region 2 with fail;go_cut [7,8] (λ_ v wx=>v=.bool (cF s c)/\Below w1.heap.size w1 wx)
 case first =>
  have hq:=cH (Below.refl w1.heap.size w1);cases hA:allT s.typ
  .by_cases hp:0<s.typ
   .have PT:=Hs (cF s c=decide (keyOf s.regs s.holder=c.new)) (by simp[cF,hA,hp]);clear hA;refine wp_region_quiet_below (by kernel_rfl) (by kernel_rfl) ?_
    repeat(go_big_quiet_step (exact Calls.regrown_of (eN s a cap s.holder _ (HRQ.out _ _))))
    refine wpQuiet_nil ?_;rintro w' ⟨⟨dq,osq⟩,rfl⟩;go_wp2_with fail;go_meet;exact⟨by rw[PT.out]; rfl,below_regrown _ dq osq⟩
   .have PT:=Hs (cF s c=false) (by simp[cF,hA,hp]);clear hA;refine wp_region_quiet_below (by kernel_rfl) (by kernel_rfl) ?_
    repeat(go_big_quiet_step (fail))
    refine wpQuiet_nil ?_;rintro w' ⟨⟨dq,osq⟩,rfl⟩;go_wp2_with fail;go_meet;exact⟨by rw[PT.out],below_regrown _ dq osq⟩
  .have hp:0<s.typ:=by simp[allT]at hA; omega
   by_cases hn:c.new=0
   .have PT:=Hs (cF s c=true) (by simp[cF,hA,hn])
    have hnb:(c.new == 0)=true:=by simp[hn]
    clear hA hn;refine wp_region_quiet_below (by kernel_rfl) (by kernel_rfl) ?_
    repeat(go_big_quiet_step (fail))
    refine wpQuiet_nil ?_;rintro w' ⟨⟨dq,osq⟩,rfl⟩;go_wp2_with fail;go_meet;exact⟨by rw[PT.out],below_regrown _ dq osq⟩
   .have PT:=Hs (cF s c=false) (by simp[cF,hA,hn])
    have hnb:(c.new == 0)=false:=by simp[hn]
    clear hA hn;refine wp_region_quiet_below (by kernel_rfl) (by kernel_rfl) ?_
    repeat(go_big_quiet_step (fail))
    refine wpQuiet_nil ?_;rintro w' ⟨⟨dq,osq⟩,rfl⟩;go_wp2_with fail;go_meet;exact⟨by rw[PT.out],below_regrown _ dq osq⟩
 case rest =>
  obtain⟨rfl,b2⟩:=hcut;have HR2:=Hx ((HR.out.below B1.out).below b2);have hM:w.heap.size+1+1<wc.heap.size:=Nat.lt_of_lt_of_le hN b2.size
  have hM0:w.heap.size<wc.heap.size:=by omega
  have hM1:w.heap.size+1<wc.heap.size:=by omega
  have MF:=Hx ((b2.block _ hN1).trans HC.out);have HZ2:=Hx ((b2.block _ hN).trans HZ.out);have Nx:=Hx ((b2.block _ hN0).trans HS1.out);have B2:=Hx (B1.out.trans (b2.mono B1.out.size));clear b2 d0 d1 d2 d3 d4 k3 hN hN0 hN1 HRQ HR3 HC HZ HS1 B1;obtain⟨⟨d0,d1,d2,d3,d4⟩,-⟩:=bP (Below.refl wc.heap.size wc) hM0 Nx.out;obtain⟨⟨z0,z1,z2,z3,z4⟩,y0,y1,y2,y3,y4⟩:=bP (Below.refl wc.heap.size wc) hM HZ2.out
  have k1:wc.cell? ⟨w.heap.size+1,1,none⟩=some (.int .i64 c.who):=by simp[World.cell?,MF.out]
  have k3:wc.cell? ⟨w.heap.size+1,3,none⟩=some (.int .i64 c.new):=by simp[World.cell?,MF.out]
  have HPT:=Hs (aI s c=aI s c) rfl;by_cases h5:c.new=0/\cF s c=false
  .have P1:=Hs (aI s c=(s,[],5)) (by unfold aI; rw[if_pos h5]);obtain⟨hn,ht⟩:=h5
   have hnb:(c.new == 0)=true:=by simp[hn]
   rw[ht];clear hn ht;go_wp2;refine bodyPost_ret (v:=.tuple #[.agg #[.int .i64 s.gen,.slice a s.regs.length cap,.int .i64 s.typ,.int .i64 s.holder,.bool s.stays],.slice none 0 0,.iface 108 (.int .i64 5)]) (by simp[results,Tryz.results133,go_sem, *]) rfl ?_;refine xm P1.out HR.out B2.out ?_
   repeat(first|with_reducible exact ac.refl _ _ | (with_reducible refine ac.drew ?_)|(with_reducible refine af ?_ _ _))
  obtain⟨G,hG⟩:=Nm (aD c.who c.new s.regs);obtain⟨L,hL⟩:=Nm (putOut s.regs G)
  have M7:=Hx (show aI s c=(if cF s c=false then
    if G.length=0/\keyOf s.regs c.who≠c.new then(s,[],4) else(⟨s.gen,L,s.typ,s.holder,s.stays⟩,az G 1,0)
   else(⟨s.gen,L,c.typ,if allT c.typ then 0 else c.who,s.stays⟩,az G 1 ++ (if s.typ≠c.typ then az (am c.who L) 2 else []),0)) from by unfold aI; rw[if_neg h5,<-hL,<-hG]; rfl)
  have HG:=Hx hG;have HL':=Hx hL;have HGL:=Hs (G.length<=40/\sX L 40/\L.length<=s.regs.length) (⟨hG▸Nat.le_trans (pm _ _ _) HL.out.len,hL▸HL.out.putOut G,hL▸iJ _ _⟩);have H5:=Hx h5;have hgl:G.length<=40:=HGL.out.1;clear hG hL h5;go_upto_region 3 with fail;go_cut [8,44] (λu v wx=>u=.bool (cF s c)/\v=.bool false/\wx=wc)
  case first =>
   by_cases hn:c.new=0
   .have hnb:(c.new == 0)=true:=by simp[hn]
    have ht:cF s c=true:=by
     cases h:cF s c
     .exact absurd ⟨hn,h⟩ H5.out
     .rfl
    clear hn;have HT:=Hx ht;go_wp2_with fail;go_meet;exact⟨by rw[HT.out],rfl,rfl⟩
   .have hnb:(c.new == 0)=false:=by simp[hn]
    clear hn;go_wp2_with fail;go_meet;exact⟨rfl,rfl,rfl⟩
  case rest =>
   obtain⟨rfl,rfl,rfl⟩:=hcut;go_wp2_with fail;refine(Gs s a cap c.who c.new _ HR2.out HL.out G L HG.out HL'.out).mono ?_;rintro e w3 ⟨a3,c3,ag,cg,rfl,JY,ha3,Js,IK⟩;have B3:=Hx (B2.out.trans (IK.mono B2.out.size));have hM3:w.heap.size+1+1<w3.heap.size:=Nat.lt_of_lt_of_le hM IK.size;have HB3:=Hx IK;have Nw:=Hx JY;have HA3:=Hx ha3;have HI3:=Hx Js;clear d0 d1 d2 d3 d4 z0 z1 z2 z3 z4 y0 y1 y2 y3 y4 k1 k3 IK JY ha3 Js;have HSw:=Hx ((HB3.out.block _ hM0).trans Nx.out);have HCw:=Hx ((HB3.out.block _ hM1).trans MF.out);have HZw:=Hx ((HB3.out.block _ hM).trans HZ2.out);cases ht:cF s c
   .have I0:=Hx (M7.out.trans (if_pos ht));clear ht M7;have JO:=Hx (ay w3 (.cells #[.int .i64 s.gen,.slice a3 L.length c3,.int .i64 s.typ,.int .i64 s.holder,.bool s.stays] 34));go_upto_region 7 with fail;obtain⟨w4,Iq⟩:=Nn (w3.alloc (.cells #[.int .i64 s.gen,.slice a3 L.length c3,.int .i64 s.typ,.int .i64 s.holder,.bool s.stays] 34));have HT4:=Hs (w4.heap[w3.heap.size]?=some (.cells #[.int .i64 s.gen,.slice a3 L.length c3,.int .i64 s.typ,.int .i64 s.holder,.bool s.stays] 34 (0,0))) (Iq▸heap_alloc_new _ _);rw[<-Iq]at JO ⊢
    have hs4:w4.heap.size=w3.heap.size+1:=by rw[Iq]; simp
    have hM4:w.heap.size+1+1<w4.heap.size:=by omega
    have M1:w.heap.size<w4.heap.size:=by omega
    have Og:w.heap.size+1<w4.heap.size:=by omega
    have Kz:w3.heap.size<w4.heap.size:=by omega
    have Hs4:=Hx hs4;clear hs4 Iq;obtain⟨⟨d0,d1,d2,d3,d4⟩,-⟩:=bP (Below.refl w4.heap.size w4) M1 ((JO.out.block _ (by omega)).trans HSw.out);have HC4:=Hx ((JO.out.block _ (by omega)).trans HCw.out)
    have k1:w4.cell? ⟨w.heap.size+1,1,none⟩=some (.int .i64 c.who):=by simp[World.cell?,HC4.out]
    have k3:w4.cell? ⟨w.heap.size+1,3,none⟩=some (.int .i64 c.new):=by simp[World.cell?,HC4.out]
    have B4:=Hx (B3.out.trans (JO.out.mono B3.out.size));have HRQ4:=Hx (λ(d:Nat) (os:Array Obj)=>(HR.out.below B4.out).below (below_regrown w4 d os));go_cut [69] (λv wx=>v=.bool (decide (G.length=0/\keyOf s.regs c.who≠c.new))/\Below w4.heap.size w4 wx)
    case first =>
     have hq:=cH (Below.refl w4.heap.size w4);by_cases hg:G.length=0
     .have hgb:((G.length:Int) == 0)=true:=by rw[beq_iff_eq]; omega
      have PD:=Hs (decide (G.length=0/\keyOf s.regs c.who≠c.new)=(keyOf s.regs c.who != c.new)) (by rw[Bool.eq_iff_iff]; simp[hg]);clear hg;refine wp_region_quiet_below (by kernel_rfl) (by kernel_rfl) ?_
      repeat(go_big_quiet_step (exact Calls.regrown_of (eN s a cap c.who _ (HRQ4.out _ _))))
      refine wpQuiet_nil ?_;rintro w' ⟨⟨dq,osq⟩,rfl⟩;go_wp2_with fail;go_meet;exact⟨by rw[PD.out],below_regrown _ dq osq⟩
     .have hgb:((G.length:Int) == 0)=false:=by rw[beq_eq_false_iff_ne]; omega
      have PD:=Hs (decide (G.length=0/\keyOf s.regs c.who≠c.new)=false) (decide_eq_false (λh=>hg h.1));clear hg;refine wp_region_quiet_below (by kernel_rfl) (by kernel_rfl) ?_
      repeat(go_big_quiet_step (fail))
      refine wpQuiet_nil ?_;rintro w' ⟨⟨dq,osq⟩,rfl⟩;go_wp2_with fail;go_meet;exact⟨by rw[PD.out],below_regrown _ dq osq⟩
    case rest =>
     obtain⟨rfl,b5⟩:=hcut;have hM5:w.heap.size+1+1<wc.heap.size:=Nat.lt_of_lt_of_le hM4 b5.size;have hM53:w3.heap.size<wc.heap.size:=Nat.lt_of_lt_of_le Kz b5.size;have HS5:=Hx ((b5.block _ M1).trans ((JO.out.block _ (by omega)).trans HSw.out));have HZ5:=Hx ((b5.block _ hM4).trans ((JO.out.block _ (by omega)).trans HZw.out));have HT5:=Hx ((b5.block _ Kz).trans HT4.out);have B5:=Hx (B4.out.trans (b5.mono B4.out.size));have HI5:=Hx ((HI3.out.keeps (ac.of_below (S:=(·=w.heap.size+1+1)) JO.out) (λm hm=>by omega)).keeps (ac.of_below (S:=(·=w.heap.size+1+1)) b5) (λm hm=>by omega));have HSt5:=Hx (vr Nw.out JO.out b5);obtain⟨⟨e0,e1,e2,e3,e4⟩,-⟩:=bP (Below.refl wc.heap.size wc) (by omega) HS5.out;obtain⟨⟨z0,z1,z2,z3,z4⟩,y0,y1,y2,y3,y4⟩:=bP (Below.refl wc.heap.size wc) hM5 HZ5.out;obtain⟨⟨t0,t1,t2,t3,t4⟩,-⟩:=bP (Below.refl wc.heap.size wc) hM53 HT5.out;clear b5 d0 d1 d2 d3 d4 k1 k3;by_cases hc:G.length=0/\keyOf s.regs c.who≠c.new
     .have P1:=Hx (I0.out.trans (if_pos hc));have hcb:decide (G.length=0/\keyOf s.regs c.who≠c.new)=true:=decide_eq_true hc;rw[hcb];clear hc hcb;go_wp2;refine bodyPost_ret (v:=.tuple #[.agg #[.int .i64 s.gen,.slice a s.regs.length cap,.int .i64 s.typ,.int .i64 s.holder,.bool s.stays],.slice none 0 0,.iface 108 (.int .i64 4)]) (by simp[results,Tryz.results133,go_sem, *]) rfl ?_;refine xm P1.out HR.out B5.out ?_
      repeat(first|with_reducible exact ac.refl _ _ | (with_reducible refine ac.drew ?_)|(with_reducible refine af ?_ _ _))
     .have P1:=Hx (I0.out.trans (if_neg hc));have hcb:decide (G.length=0/\keyOf s.regs c.who≠c.new)=false:=decide_eq_false hc;rw[hcb];clear hc hcb;have HIN:=Hx (λ(w':World) (k:ac (·=w.heap.size+1+1) wc w')=>(HI5.out.keeps k (λm hm=>by omega)).ints);have KEEP:=Hx (Bw (N:=w.heap.size+1+1) (b:=w3.heap.size) (by omega) HT5.out);go_wp2
      go_region_held3 (λw'=>ac (·=w.heap.size+1+1) wc w'/\w'.cell? ⟨w3.heap.size,0,none⟩=some (.int .i64 s.gen)/\w'.cell? ⟨w3.heap.size,1,none⟩=some (.slice a3 L.length c3)/\w'.cell? ⟨w3.heap.size,2,none⟩=some (.int .i64 s.typ)/\w'.cell? ⟨w3.heap.size,3,none⟩=some (.int .i64 s.holder)/\w'.cell? ⟨w3.heap.size,4,none⟩=some (.bool s.stays))
       ((refine KEEP.out _ ?_; repeat(first|with_reducible exact And.left (by with_reducible assumption) | exact(ac.refl _ _).drew | (with_reducible refine af ?_ _ _) | exact ac.trans (And.left (by assumption)) (ac.of_below (by assumption)))))
       ((go_at_call 130; (with_reducible refine(fZ _ ag cg 1 _ (by omega) (HIN.out _ (And.left (by assumption)))).mono ?_); rintro e w7 ⟨v7,rfl,ho7,hb7⟩; have H57:Below wc.heap.size wc w7:=((Below.refl _ _).drew).trans hb7; obtain⟨⟨p0,p1,p2,p3,p4⟩,q0,q1,q2,q3,q4⟩:=bP H57 (b:=w.heap.size+1+1) hM5 HZ5.out))
      go_wp2;refine bodyPost_ret (v:=.tuple #[.agg #[.int .i64 s.gen,.slice a3 L.length c3,.int .i64 s.typ,.int .i64 s.holder,.bool s.stays],v7,.nilIface]) (by simp[results,Tryz.results133,go_sem, *]) rfl ?_;refine rS P1.out HR.out HGL.out.2.2 (HSt5.out.below H57) HA3.out hM (B5.out.trans (H57.mono B5.out.size)) ho7 (by simpa using hM5) ?_
      repeat(first|with_reducible exact ac.refl _ _ | (with_reducible refine ac.drew ?_)|(with_reducible refine af ?_ _ _))
   .have I0:=Hx (M7.out.trans (if_neg (by rw[ht]; simp)));clear ht M7;have JO:=Hx (ay w3 (.cells #[.int .i64 s.gen,.slice a3 L.length c3,.int .i64 s.typ,.int .i64 s.holder,.bool s.stays] 34));go_upto_region 10 with fail;obtain⟨w4,Iq⟩:=Nn (w3.alloc (.cells #[.int .i64 s.gen,.slice a3 L.length c3,.int .i64 s.typ,.int .i64 s.holder,.bool s.stays] 34));have HT4:=Hs (w4.heap[w3.heap.size]?=some (.cells #[.int .i64 s.gen,.slice a3 L.length c3,.int .i64 s.typ,.int .i64 s.holder,.bool s.stays] 34 (0,0))) (Iq▸heap_alloc_new _ _);rw[<-Iq]at JO ⊢
    have hs4:w4.heap.size=w3.heap.size+1:=by rw[Iq]; simp
    have hM4:w.heap.size+1+1<w4.heap.size:=by omega
    have M1:w.heap.size<w4.heap.size:=by omega
    have Og:w.heap.size+1<w4.heap.size:=by omega
    have Kz:w3.heap.size<w4.heap.size:=by omega
    have Hs4:=Hx hs4;clear hs4 Iq;have HS4:=Hx ((JO.out.block _ (by omega)).trans HSw.out);have HC4:=Hx ((JO.out.block _ (by omega)).trans HCw.out);have HZ4:=Hx ((JO.out.block _ (by omega)).trans HZw.out);have B4:=Hx (B3.out.trans (JO.out.mono B3.out.size));have HI4:=Hx (HI3.out.keeps (ac.of_below (S:=(·=w.heap.size+1+1)) JO.out) (λm hm=>by omega));go_wp2_with fail;refine(fZ _ ag cg 1 _ (by omega) HI4.out.ints).mono ?_;rintro e w5 ⟨v5,rfl,ho5,hb5⟩;obtain⟨a5,c5,rfl,-⟩:=ho5.shape;have HO5:=Hx ho5;have IR:=Hx hb5;have hM5:w.heap.size<w5.heap.size:=Nat.lt_of_lt_of_le M1 hb5.size;have hM51:w.heap.size+1<w5.heap.size:=Nat.lt_of_lt_of_le Og hb5.size;have hM53:w3.heap.size<w5.heap.size:=Nat.lt_of_lt_of_le Kz hb5.size;obtain⟨⟨e0,e1,e2,e3,e4⟩,-⟩:=bP hb5 M1 HS4.out;obtain⟨⟨t0,t1,t2,t3,t4⟩,-⟩:=bP hb5 Kz HT4.out;have On:=Hx ((hb5.block _ Og).trans HC4.out)
    have k1:w5.cell? ⟨w.heap.size+1,1,none⟩=some (.int .i64 c.who):=by simp[World.cell?,On.out]
    have k4:w5.cell? ⟨w.heap.size+1,4,none⟩=some (.int .i64 c.typ):=by simp[World.cell?,On.out]
    clear ho5 hb5;obtain⟨T,hT⟩:=Nm (az G 1);rw[hT]at HO5 ⊢;have HTT:=Hx hT;clear hT;obtain⟨X,hX⟩:=Nm (T ++ (if s.typ≠c.typ then az (am c.who L) 2 else []));have HX:=Hx hX;clear hX;go_upto_if 81 with fail;go_cut [11] (λv wx=>∃a9 c9,v=.slice a9 X.length c9/\bT w4.heap.size wx v X/\Below w4.heap.size w4 wx)
    case first =>
     by_cases he:s.typ=c.typ
     .have J9:(s.typ != c.typ)=false:=by simp[he]
      have Ks:=Hs (X=T) (by rw[<-HX.out,if_neg (by simpa using he),List.append_nil]);clear he;go_wp2_with fail;go_meet;exact⟨a5,c5,by rw[Ks.out],by rw[Ks.out]; exact HO5.out,IR.out⟩
     .have J9:(s.typ != c.typ)=true:=by simp[he]
      obtain⟨O,hO⟩:=Nm (am c.who L)
      have MS:O.length<=40:=by have:=dw c.who L L.length; rw[List.take_length,hO]at this; have:=HGL.out.2.1.len; omega
      have HO:=Hx hO;have Ks:=Hs (X=T ++ az O 2) (by rw[<-HX.out,if_pos he,hO]);clear hO he;go_wp2_with fail;refine(lz s.gen L s.typ s.holder s.stays a3 c3 c.who _ ((Nw.out.below JO.out).below IR.out) (by have:=HGL.out.2.1.len; omega) O HO.out).mono ?_;rintro e w6 ⟨a6,c6,rfl,hi6,hb6⟩;go_wp2_with fail;refine(fZ O a6 c6 2 _ (by omega) hi6).mono ?_;rintro e w7 ⟨v7,rfl,ho7,hb7⟩;obtain⟨Y,hY⟩:=Nm (az O 2)
      have hyl:Y.length<=40:=by rw[<-hY]; simp[az]; omega
      rw[hY]at ho7 Ks;clear hY;obtain⟨a7,c7,rfl,hp7⟩:=ho7.shape
      have tl0:T.length<=40:=by rw[<-HTT.out]; simpa[az] using hgl
      have hb57:Below w5.heap.size w5 w7:=hb6.trans (hb7.mono hb6.size);have HO7:=Hx (HO5.out.below hb57);have IF:T.length<=c5:=xp HO5.out;have hb47:Below w4.heap.size w4 w7:=IR.out.trans (hb57.mono IR.out.size);by_cases e0:Y.length=0
      .have HX2:=Hs (X=T) (by rw[Ks.out,List.length_eq_zero_iff.1 e0,List.append_nil]);rw[e0];clear e0;go_wp2_with (at_builtin; refine fG rfl _ _ 115 rfl 120 i0 Tryz.underlying115 hi a5 T.length c5 IF a7 c7 rfl rfl ?_);go_meet;exact⟨a5,c5,by rw[HX2.out],by rw[HX2.out]; exact HO7.out,hb47⟩
      .have hp:∃b o,a7=some ⟨b,o,none⟩:=by
        obtain⟨b,o,e,-⟩:=hp7 0 (by omega);exact⟨b,o,e⟩
       obtain⟨b,o,rfl⟩:=hp;go_wp2_with (at_builtin; refine wpList_append_own _ rfl _ _ 115 rfl w4.heap.size 120 i0 (.agg #[.int .i64 0,.int .i64 0]) 2 16 Tryz.underlying115 hi Ij Ii Im rfl (by decide) _ _ _ rfl HO7.out ⟨b,o,none⟩ Y.length c7 (ah Y) rfl (aF _) (gQ hp7) (bC _) ?c3 ?c4 ?c5 ?_)
       case c3=>unfold maxLen; omega
       case c4=>omega
       case c5=>exact hb47.size
       intro v' w8 hown8 hg8 _;have hb48:Below w4.heap.size w4 w8:=hb47.grown hg8 hb47.size HO7.out.blk
       have ho8:bT w4.heap.size w8 v' X:=by rw[Ks.out]; exact xq hown8
       obtain⟨a9,c9,rfl,-⟩:=ho8.shape;have HO8:=Hx ho8;clear hown8 hg8 ho8;go_wp2_with fail;go_meet;exact⟨a9,c9,rfl,HO8.out,hb48⟩
    case rest =>
     obtain⟨a9,c9,rfl,ho9,hb9⟩:=hcut;have HO9:=Hx ho9;have HB9:=Hx hb9;have JF:=Hs (aI s c=(⟨s.gen,L,c.typ,if allT c.typ then 0 else c.who,s.stays⟩,X,0)) (by rw[I0.out,<-HX.out,HTT.out]);have hN9:w3.heap.size<wc.heap.size:=Nat.lt_of_lt_of_le Kz hb9.size;have hN91:w.heap.size+1<wc.heap.size:=Nat.lt_of_lt_of_le Og hb9.size;have hN92:w.heap.size+1+1<wc.heap.size:=Nat.lt_of_lt_of_le hM4 hb9.size;have HT9:=Hx ((hb9.block _ Kz).trans HT4.out);have HC9:=Hx ((hb9.block _ Og).trans HC4.out);have HZ9:=Hx ((hb9.block _ hM4).trans HZ4.out);clear ho9 hb9 e0 e1 e2 e3 e4 t0 t1 t2 t3 t4 k1 k4;go_upto_region 13 with fail;go_cut [11] (λv wx=>v=.slice a9 X.length c9/\wx.heap[w3.heap.size]?=some (.cells #[.int .i64 s.gen,.slice a3 L.length c3,.int .i64 0,.int .i64 0,.bool s.stays] 34 (0,0))/\ac (·=w3.heap.size) wc wx)
     case first =>
      obtain⟨⟨t0,t1,t2,t3,t4⟩,-⟩:=bP (Below.refl wc.heap.size wc) hN9 HT9.out;go_wp2_with fail;refine(fw s.gen L s.typ s.holder s.stays a3 c3 _).mono ?_;rintro e w8 ⟨rfl,hb8⟩;have HT8:=Hx ((hb8.block _ hN9).trans HT9.out);have KB8:=Hx (ac.of_below (S:=(·=w3.heap.size)) hb8);obtain⟨⟨t0,t1,t2,t3,t4⟩,r0,r1,r2,r3,r4⟩:=bP hb8 hN9 HT9.out;clear hb8;go_wp2_with fail;go_meet;exact⟨rfl,block_setCell (block_setCell (block_setCell (block_setCell (block_setCell HT8.out _) _) _) _) _,KB8.out.trans (af (af (af (af (af (ac.refl _ _) _ _) _ _) _ _) _ _) _ _)⟩
     case rest =>
      obtain⟨wo,rfl⟩:∃wo:World,wo=wc:=⟨_,rfl⟩
      obtain⟨rfl,ht10,NY⟩:=hcut;have HT10:=Hx ht10;have HK10:=Hx NY;have hN10:w3.heap.size<wo.heap.size:=Nat.lt_of_lt_of_le hN9 NY.size;have hN101:w.heap.size+1<wo.heap.size:=Nat.lt_of_lt_of_le hN91 NY.size;have HC10:=Hx ((NY.block (w.heap.size+1) (by omega) hN91).trans HC9.out);clear ht10 NY;go_upto_region 14 with fail;go_cut [11] (λv wx=>v=.slice a9 X.length c9/\wx.heap[w3.heap.size]?=some (.cells #[.int .i64 s.gen,.slice a3 L.length c3,.int .i64 c.typ,.int .i64 c.who,.bool s.stays] 34 (0,0))/\ac (·=w3.heap.size) wo wx)
      case first =>
       obtain⟨⟨t0,t1,t2,t3,t4⟩,r0,r1,r2,r3,r4⟩:=bP (Below.refl wo.heap.size wo) hN10 HT10.out
       have k1:wo.cell? ⟨w.heap.size+1,1,none⟩=some (.int .i64 c.who):=by simp[World.cell?,HC10.out]
       have k4:wo.cell? ⟨w.heap.size+1,4,none⟩=some (.int .i64 c.typ):=by simp[World.cell?,HC10.out]
       go_region;go_wp2_with fail;go_meet;exact⟨rfl,block_setCell (block_setCell HT10.out _) _,(af (af (ac.refl _ _) _ _) _ _).drew⟩
      case rest =>
       obtain⟨rfl,ht11,hk11⟩:=hcut;have HT11:=Hx ht11;have HK11:=Hx (HK10.out.trans hk11);have hN11:w3.heap.size<wc.heap.size:=Nat.lt_of_lt_of_le hN10 hk11.size;clear ht11 hk11;obtain⟨⟨t0,t1,t2,t3,t4⟩,-⟩:=bP (Below.refl wc.heap.size wc) hN11 HT11.out;go_wp2_with fail;refine(cS ⟨s.gen,L,c.typ,c.who,s.stays⟩ a3 c3 _).mono ?_;rintro e w12 ⟨rfl,Io⟩;have HT12:=Hx ((Io.block _ hN11).trans HT11.out);have Nb:=Hx (HK11.out.trans (ac.of_below Io));have hN12:w3.heap.size<w12.heap.size:=Nat.lt_of_lt_of_le hN11 Io.size;have hN122:w.heap.size+1+1<w12.heap.size:=Nat.lt_of_lt_of_le hN92 Nb.out.size;have HZ12:=Hx ((Nb.out.block (w.heap.size+1+1) (by omega) hN92).trans HZ9.out);clear t0 t1 t2 t3 t4 Io;obtain⟨⟨t0,t1,t2,t3,t4⟩,r0,r1,r2,r3,r4⟩:=bP (Below.refl w12.heap.size w12) hN12 HT12.out;obtain⟨⟨z0,z1,z2,z3,z4⟩,y0,y1,y2,y3,y4⟩:=bP (Below.refl w12.heap.size w12) hN122 HZ12.out;dsimp only;have Jb:=Hs (bj w12 ⟨s.gen,L,s.typ,s.holder,s.stays⟩ a3) (Nw.out.below (JO.out.trans ((HB9.out.mono (Nat.le_of_lt Kz)).trans (Nb.out.below (Nat.le_of_lt hN9) (λm hm=>by omega)))));have Oq:=Hs (Below w.heap.size w w12) (B4.out.trans ((HB9.out.mono (Nat.le_of_lt M1)).trans (Nb.out.below (by omega) (λm hm=>by omega))));have HOO:=Hx (HO9.out.keeps Nb.out (λm hm=>by omega))
       have Ik:w3.heap.size≠w.heap.size+1+1:=by omega
       have hne2:w.heap.size+1+1≠w3.heap.size:=by omega
       cases hA:allT c.typ
       .have M6:=Hs (aI s c=(⟨s.gen,L,c.typ,c.who,s.stays⟩,X,0)) (by rw[JF.out,hA]; simp);clear hA;go_wp2;refine bodyPost_ret (v:=.tuple #[.agg #[.int .i64 s.gen,.slice a3 L.length c3,.int .i64 c.typ,.int .i64 c.who,.bool s.stays],.slice a9 X.length c9,.nilIface]) (by simp[results,Tryz.results133,go_sem, *]) rfl ?_;refine rS M6.out HR.out HGL.out.2.2 Jb.out HA3.out hM Oq.out HOO.out hM4 ?_
        repeat(first|with_reducible exact ac.refl _ _ | (with_reducible refine ac.drew ?_)|(with_reducible refine af ?_ _ _))
       .have M6:=Hs (aI s c=(⟨s.gen,L,c.typ,0,s.stays⟩,X,0)) (by rw[JF.out,hA]; simp);clear hA;go_wp2;refine bodyPost_ret (v:=.tuple #[.agg #[.int .i64 s.gen,.slice a3 L.length c3,.int .i64 c.typ,.int .i64 0,.bool s.stays],.slice a9 X.length c9,.nilIface]) (by simp[results,Tryz.results133,go_sem, *]) rfl ?_;have hkz:ac (·=w3.heap.size) w12 (w12.setCell ⟨w3.heap.size,3,none⟩ (.int .i64 0)):=af (ac.refl _ _) _ _;refine rS (w7:=w12.setCell ⟨w3.heap.size,3,none⟩ (.int .i64 0)) M6.out HR.out HGL.out.2.2 (Fb Nw.out (ac.trans (ac.of_below (S:=(·=w3.heap.size)) (JO.out)) ((ac.of_below (S:=(·=w3.heap.size)) HB9.out).trans (Nb.out.trans hkz)))) HA3.out hM (Oq.out.trans (hkz.below Oq.out.size (λm hm=>by omega))) (HOO.out.keeps hkz (λm hm=>by omega)) hM4 ?_
        repeat(first|with_reducible exact ac.refl _ _ | (with_reducible refine ac.drew ?_)|(with_reducible refine af ?_ _ _))
end
section
open Go.RowKit
def eA(who key:Int)(s:List (Int × Int) × Bool)(r:Int × Int):List (Int × Int) × Bool:=if s.2=false/\who<=r.1 then(s.1 ++ [(who,key)],true) else s
def bS(who key:Int)(s:List (Int × Int) × Bool)(r:Int × Int):List (Int × Int) × Bool:=if r.1≠who then((eA who key s r).1 ++ [r],(eA who key s r).2) else eA who key s r
def dA(who key:Int)(l:List (Int × Int)):List (Int × Int) × Bool:=l.foldl (bS who key) ([],decide (key=0))
def gK(who key:Int)(s:List (Int × Int) × Bool):List (Int × Int):=if s.2=false then s.1 ++ [(who,key)] else s.1
theorem DL(who key:Int)(l:List (Int × Int))(k:Nat)(h:k<l.length):dA who key (l.take (k+1))=bS who key (dA who key (l.take k)) l[k]:=by rw[List.take_succ_eq_append_getElem h];unfold dA;rw[List.foldl_append];rfl
theorem lm(who key:Int):∀(l acc:List (Int × Int)),(l.foldl (bS who key) (acc,true))=(acc ++ without who l,true)
 | [],acc=>by simp[without]
 | r :: l,acc=>by
  rw[List.foldl_cons]
  have hl:eA who key (acc,true) r=(acc,true):=by simp[eA]
  by_cases e:r.1=who
  .have:bS who key (acc,true) r=(acc,true):=by unfold bS; rw[if_neg (by simp[e]),hl]
   rw[this,lm who key l acc];simp[without,e]
  .have:bS who key (acc,true) r=(acc ++ [r],true):=by unfold bS; rw[if_pos e,hl]
   rw[this,lm who key l];simp[without,e]
theorem BI(who key:Int)(l:List (Int × Int))(h:∀r∈l,who<=r.1):ins who key l=(who,key) :: l:=by
 cases l with
 | nil=>rfl
 | cons r l=>unfold ins; rw[if_neg (by have:=h r (by simp); omega)]
theorem xi(who key:Int):∀(l acc:List (Int × Int)),l.Pairwise (λa b=>a.1<b.1)->gK who key (l.foldl (bS who key) (acc,false))=acc ++ ins who key (without who l)
 | [],acc,_=>by simp[gK,without,ins]
 | r :: l,acc,hp=>by
  rw[List.pairwise_cons]at hp;rw[List.foldl_cons];by_cases e:who<=r.1
  .have hl:eA who key (acc,false) r=(acc ++ [(who,key)],true):=by simp[eA,e]
   have hge:∀x∈without who (r :: l),who<=x.1:=λx hx=>by
    have:=(List.mem_filter.1 hx).1
    rcases List.mem_cons.1 this with rfl | hx
    .exact e
    .have:=hp.1 x hx; omega
   rw[BI who key _ hge];by_cases e2:r.1=who
   .have:bS who key (acc,false) r=(acc ++ [(who,key)],true):=by unfold bS; rw[if_neg (by simp[e2]),hl]
    rw[this,lm];simp[gK,without,e2]
   .have:bS who key (acc,false) r=(acc ++ [(who,key)] ++ [r],true):=by unfold bS; rw[if_pos e2,hl]
    rw[this,lm];simp[gK,without,e2]
  .have hl:eA who key (acc,false) r=(acc,false):=by simp[eA,e]
   have e2:r.1≠who:=by omega
   have:bS who key (acc,false) r=(acc ++ [r],false):=by unfold bS; rw[if_pos e2,hl]
   rw[this,xi who key l _ hp.2]
   have hw:without who (r :: l)=r :: without who l:=by simp[without,e2]
   rw[hw]
   have hi:ins who key (r :: without who l)=r :: ins who key (without who l):=by rw[ins,if_pos (by omega)]
   rw[hi];simp
theorem DJ(who key:Int)(l:List (Int × Int))(hk:0<=key)(hp:l.Pairwise (λa b=>a.1<b.1)):gK who key (dA who key l)=aZ l who key:=by
 unfold dA aZ
 rcases (by omega:key=0\/0<key) with e | e
 .subst e;rw[if_neg (by omega)];have:decide ((0:Int)=0)=true:=rfl;rw[this,lm];simp[gK]
 .rw[if_pos e]
  have:decide (key=0)=false:=by simp; omega
  rw[this,xi who key l _ hp];simp
theorem Fj(who key:Int)(l:List (Int × Int)):(dA who key l).1.length<=2*l.length:=by
 have:∀(l:List (Int × Int)) (s:List (Int × Int) × Bool),(l.foldl (bS who key) s).1.length<=s.1.length+2*l.length:=by
  intro l
  induction l with
  | nil=>intro s; simp
  | cons r l ih =>
   intro s;rw[List.foldl_cons];have:=ih (bS who key s r)
   have h2:(bS who key s r).1.length<=s.1.length+2:=by
    unfold bS eA
    split<;>split<;>simp
   simp only[List.length_cons];omega
 simpa[dA] using this l ([],decide (key=0))
