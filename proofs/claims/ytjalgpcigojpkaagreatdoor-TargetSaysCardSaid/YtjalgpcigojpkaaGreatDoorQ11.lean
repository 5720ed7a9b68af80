import Derived.Test.YtjalgpcigojpkaaGreatDoorQ10
set_option maxRecDepth 99999
set_option maxHeartbeats 99999999
namespace Go.Proofs.YtjalgpcigojpkaaGreatDoor
section
open Go.RowKit Go.Sort
def eM(best cs:List aw):Nat->List aw
 | 0=>best
 | n+1=>if aC (cs.getD n aw.zero) ((eM best cs n).getD n aw.zero) then(eM best cs n).set n (cs.getD n aw.zero) else eM best cs n
theorem iq(best cs:List aw):∀n,(eM best cs n).length=best.length
 | 0=>rfl
 | n+1=>by
  unfold eM
  split
  .simp[iq best cs n]
  .exact iq best cs n
theorem qL(best cs:List aw)(i:Nat)(hi:i<best.length):∀n,(eM best cs n).getD i aw.zero=if i<n/\aC (cs.getD i aw.zero) (best.getD i aw.zero)=true then cs.getD i aw.zero else best.getD i aw.zero
 | 0=>by simp[eM]
 | n+1=>by
  have ih:=qL best cs i hi n;have hl:=iq best cs n;unfold eM;by_cases hin:i=n
  .subst hin;rw[if_neg (by omega)]at ih;rw[ih];by_cases hn:aC (cs.getD i aw.zero) (best.getD i aw.zero)=true
   .rw[if_pos hn,if_pos ⟨by omega,hn⟩];simp[List.getD_eq_getElem?_getD,hl,hi]
   .rw[if_neg hn,if_neg (λh=>hn h.2),ih]
  .have e:∀c,((eM best cs n).set n c).getD i aw.zero=(eM best cs n).getD i aw.zero:=λc=>by
    simp[List.getD_eq_getElem?_getD,List.getElem?_set_ne (Ne.symm hin)]
   have e2:(i<n+1/\aC (cs.getD i aw.zero) (best.getD i aw.zero)=true) ↔ (i<n/\aC (cs.getD i aw.zero) (best.getD i aw.zero)=true):=by constructor<;>rintro⟨h1,h2⟩<;>exact⟨by omega,h2⟩
   split
   .rw[e,ih]; simp only[e2]
   .rw[ih]; simp only[e2]
def du:List aw:=List.replicate 8 aw.zero
def bV(l:List Rp):List aw:=l.foldl (λb r=>eM b r.cells 8) du
theorem gq(l:List Rp):(bV l).length=8:=by
 have:∀(l:List Rp) (b:List aw),b.length=8->(l.foldl (λb r=>eM b r.cells 8) b).length=8:=by
  intro l
  induction l with
  | nil=>intro b h; exact h
  | cons r l ih=>intro b h; exact ih _ (by rw[iq]; exact h)
 exact this l _ (by simp[du])
theorem us{l:List Rp}{k:Nat}(h:k<l.length):bV (l.take (k+1))=eM (bV (l.take k)) l[k].cells 8:=by unfold bV;rw[List.take_add_one,List.getElem?_eq_getElem h,List.foldl_append];rfl
def bK(i:Nat)(l:List Rp):aw:=l.foldl (λb r=>if aC (r.get i) b then r.get i else b) aw.zero
theorem iQ(l:List Rp)(i:Nat)(hi:i<8):(bV l).getD i aw.zero=bK i l:=by
 have:∀(l:List Rp) (b:List aw) (c:aw),b.length=8->b.getD i aw.zero=c->(l.foldl (λb r=>eM b r.cells 8) b).getD i aw.zero=l.foldl (λb r=>if aC (r.get i) b then r.get i else b) c:=by
  intro l
  induction l with
  | nil=>intro b c _ h; exact h
  | cons r l ih =>
   intro b c hb h;refine ih _ _ (by rw[iq]; exact hb) ?_;rw[qL b r.cells i (by omega) 8,h];unfold Rp.get;simp[hi]
 exact this l _ _ (by simp[du]) (by unfold du; rw[List.getD_eq_getElem?_getD,List.getElem?_replicate]; split<;>rfl)
theorem pK{l:List Rp}{i k:Nat}(h:k<l.length):bK i (l.take (k+1))=if aC (l[k].get i) (bK i (l.take k)) then l[k].get i else bK i (l.take k):=by unfold bK;rw[List.take_add_one,List.getElem?_eq_getElem h,List.foldl_append];rfl
theorem nP:(flat du).toArray=#[.int .i64 0,.int .i64 0,.string ⟨#[]⟩,.int .i64 0,.int .i64 0,.string ⟨#[]⟩,.int .i64 0,.int .i64 0,.string ⟨#[]⟩,.int .i64 0,.int .i64 0,.string ⟨#[]⟩,.int .i64 0,.int .i64 0,.string ⟨#[]⟩,.int .i64 0,.int .i64 0,.string ⟨#[]⟩,.int .i64 0,.int .i64 0,.string ⟨#[]⟩,.int .i64 0,.int .i64 0,.string ⟨#[]⟩]:=rfl
theorem px{w:World}{b j:Nat}{m:List aw}{T:TypeId}(h:w.heap[b]?=some (.cells (flat m).toArray T (0,0)))(hj:j<m.length) : (w.cell? ⟨b,j*3,none⟩=some (.int .i64 m[j].e)/\w.cell? ⟨b,j*3+1,none⟩=some (.int .i64 m[j].n)/\w.cell? ⟨b,j*3+2,none⟩=some (.string m[j].d)) /\ w.frozen? ⟨b,j*3,none⟩=false/\w.frozen? ⟨b,j*3+1,none⟩=false/\w.frozen? ⟨b,j*3+2,none⟩=false:=by
 obtain⟨h1,h2,h3⟩:=sE m j hj;simp[World.cell?,World.frozen?,h,h1,h2,h3]
theorem sy(m:List aw)(j:Nat)(c:aw)(h:j<m.length) : (((flat m).toArray.setIfInBounds (j*3) (.int .i64 c.e)).setIfInBounds (j*3+1) (.int .i64 c.n)).setIfInBounds (j*3+2) (.string c.d)=(flat (m.set j c)).toArray:=by
 apply Array.toList_inj.1;simp only[Array.toList_setIfInBounds];exact pw m j c h
theorem mw{m:List aw}(h:m.length=8):(flat m).toArray.size=24:=by simp[flat_length,h]
theorem uD(l:List aw)(j:Nat)(hl:l.length=8)(hj:j<8)(c:aw)(hc:l[j]'(by omega)=c)(w:World) :
  (Instr.index 63 (.agg (flat l).toArray) (.int .i64 j)).run Tryz.prog w=.ok c.v w:=by
 have hs:(sizeOf 62).run Tryz.prog w=.ok 3 w:=by
  have hn:=au.2
  cases hq:Tryz.prog.info? 62 with
  | none=>simp[hq]at hn
  | some i=>simp[hq]at hn; simp[sizeOf,typeInfo,hq,hn]
 unfold Instr.index;simp only[asIntOf,Sem.run_bind,Sem.run_pure,Result.andThen_ok,run_underlying cC.1];rw[if_pos (by omega)];simp only[Sem.run_bind,hs,Result.andThen_ok,Int.toNat_natCast];rw[jm w au.1 rfl au.2,my (by omega),hc]
theorem eU{P:Program}{ops:Array Oper}{rest:List Oper}{op:Oper}{a:Act}{w:World}{Q:Exit->Act->World->Prop}(I9:op.guard=none)(ty:TypeId)(x:Operand)(ho:op.op=.load ty x)(b o:Nat)(hx:a.eval x=.pointer (some ⟨b,o,none⟩))(cs:Array Value)(d:TypeDesc)(hc:w.rangeAt b o cs.toList)(hu:P.underlying ty=some d)(hd:d.isRow=true)(hi:(P.info? ty).map (·.size)=some cs.size)(h:wpList P ops Q rest (a.put op.dst (.agg cs)) w):wpList P ops Q (op :: rest) a w :=
 wpList_load_mid I9 ty x ho b o hx cs.toList d hc hu hd hi (by simpa using h)
theorem oM{w:World}{b:Nat}{r:Rp}{T:TypeId}(h:w.heap[b]?=some (.cells r.arr T (0,0))):w.rangeAt b 1 (flat r.cells).toArray.toList:=λj v hv=>by rw[cell_of_row w b (1+j) r.arr T (0,0) h];unfold Rp.arr;rw[Nat.add_comm];simpa using hv
theorem xr{a b:aw}{X:Bool}(h:aC a b=X)(w:World):Calls Tryz.prog 136 #[a.v,b.v] w λe w'=>e=.returned (.bool X)/\Below w.heap.size w w':=by
 have:=qK a b w
 rwa [h]at this
theorem tY{a b:aw}{X:Bool}(h:aC a b=X)(w:World):Calls Tryz.prog 111 #[a.v,b.v] w λe w'=>e=.returned (.bool X)/\Below w.heap.size w w':=by
 have:=vy a b w
 rwa [h]at this
structure MG (w:World) (m:List aw) (wx:World):Prop where
 below:Below w.heap.size w wx
 len:m.length=8
 hO:wx.heap[w.heap.size]?=some (.cells (flat du).toArray 63 (0,0))
 hM:wx.heap[w.heap.size+1]?=some (.cells (flat m).toArray 63 (0,0))
theorem MG.big{w wx:World}{m:List aw}(h:MG w m wx):w.heap.size+1<wx.heap.size:=(Gl h.hM)
theorem MG.over{w wx w':World}{m:List aw}(h:MG w m wx)(b:Below wx.heap.size wx w'):MG w m w' :=
 ⟨h.below.trans (b.mono h.below.size),h.len,(b.block _ (Gl h.hO)).trans h.hO,(b.block _ h.big).trans h.hM⟩
theorem MG.put{w wx:World}{m:List aw}(h:MG w m wx)(j:Nat)(c:aw)(hj:j<m.length) : MG w (m.set j c) (((wx.setCell ⟨w.heap.size+1,j*3,none⟩ (.int .i64 c.e)).setCell ⟨w.heap.size+1,j*3+1,none⟩ (.int .i64 c.n)).setCell ⟨w.heap.size+1,j*3+2,none⟩ (.string c.d)):=by
 have kp:ac (·=w.heap.size+1) wx (((wx.setCell ⟨w.heap.size+1,j*3,none⟩ (.int .i64 c.e)).setCell ⟨w.heap.size+1,j*3+1,none⟩ (.int .i64 c.n)).setCell ⟨w.heap.size+1,j*3+2,none⟩ (.string c.d)) :=
  ac.setCell (S:=(·=w.heap.size+1)) (ac.setCell (S:=(·=w.heap.size+1)) (ac.setCell (S:=(·=w.heap.size+1)) (ac.refl _ _) rfl _) rfl _) rfl _
 refine⟨h.below.trans (kp.below h.below.size (λk hk=>by omega)),by simp[h.len],(kp.block _ (by omega) (Gl h.hO)).trans h.hO,?_⟩;rw[<-sy m j c hj];exact block_setCell (block_setCell (block_setCell h.hM _) _) _
theorem merge_any(l:List Rp)(a:Option Addr)(cap:Nat)(w:World)(hl:l.length<=maxLen)(hr:Dc w a l) : Calls Tryz.prog 113 #[.slice a l.length cap] w λe w'=>e=.returned (.agg (flat (bV l)).toArray)/\Below w.heap.size w w':=by
 unfold maxLen at hl;have HR:=Hx hr;clear hr;go_enter Tryz.func113,Tryz.ntmps113
 go_upto_region 2 with fail;obtain⟨w1,pX⟩:=Nn ((w.alloc (.cells (flat du).toArray 63)).alloc (.cells (flat du).toArray 63));rw[nP]at pX;rw[<-pX];rw[<-nP]at pX;have HM1:=Hs (MG w du w1) (pX▸⟨(ay w _).alloc (by simp) _,rfl,heap_alloc2_old w _ _,heap_alloc2_new w _ _⟩);clear pX;go_wp2;go_loopw [10] (λi wr=>∃k:Nat,k<=l.length/\i=.int .i64 k/\MG w (bV (l.take k)) wr) (λi _=>l.length - (intOf i).toNat)
 case atStart =>
  exact⟨0,by omega,rfl,by simpa[bV] using HM1.out⟩
 case round =>
  obtain⟨k,hk,rfl,mg⟩:=hrel;have Na:=Hx mg;clear mg HM1;by_cases lB:k<l.length
  .obtain⟨h8,bb,oo,rfl,Ix,hra⟩:=HR.out k lB;have JB:=Hs (wr.rangeAt bb (oo+k*25) l[k].arr.toList) (λj v hv=>(Na.out.below.cell (p:=⟨bb,_,none⟩) Ix).trans (hra j v hv));have HL8:=Hx h8;have hz:=Hx (Rp.size h8);clear hra h8;obtain⟨R,hR⟩:=Nm (l[k]);have HMT:=Hs (bV (l.take (k+1))=eM (bV (l.take k)) R.cells 8) (hR▸us lB);rw[hR]at JB HL8 hz;clear hR;have hu:=Na.out.big;go_upto_region 5 with (first|(refine eU rfl 65 _ rfl bb (oo+k*25) rfl R.arr _ JB.out bu.1 rfl (by rw[bu.2.1,hz.out]) ?_)|(refine wpList_store_row rfl 65 _ _ rfl wr.heap.size R.arr rfl rfl 65 Rp.zero.arr (heap_alloc_new wr _) (by rw[bu.2.1,hz.out]) (by rw[hz.out]; rfl) (Rp.one _) ?_));obtain⟨w2,IQ⟩:=Nn ((wr.alloc (.cells Rp.zero.arr 65)).setRow wr.heap.size R.arr);rw[cA]at IQ;rw[<-IQ];have HM2:=Hs (MG w (bV (l.take k)) w2) (IQ▸Na.out.over (nL wr _ _ _));have HN2:=Hs (w2.heap[wr.heap.size]?=some (.cells R.arr 65 (0,0))) (IQ▸setRow_heap _ _ _ _ _ _ (heap_alloc_new wr _));clear IQ Na;have Im:=Hx (mw HL8.out);go_wp2_with (refine eU rfl 63 _ rfl wr.heap.size 1 rfl (flat R.cells).toArray _ (oM HN2.out) cC.1 rfl (by rw[cC.2,Im.out]) ?_);go_loopw [16] (λi wz=>∃j:Nat,j<=8/\i=.int .i64 j/\MG w (eM (bV (l.take k)) R.cells j) wz) (λi _=>8 - (intOf i).toNat)
   case atStart=>exact⟨0,by omega,rfl,HM2.out⟩
   case round =>
    obtain⟨j,hj,rfl,mg⟩:=hrel;obtain⟨m,hm⟩:=Nm (eM (bV (l.take k)) R.cells j);rw[hm]at mg;have Na:=Hx mg;have HM:=Hx hm;clear mg HM2 hm;by_cases Ll:j<8
    .obtain⟨c,hc⟩:=Nm (R.cells[j]'(by rw[HL8.out]; exact Ll));have hidx:=uD R.cells j HL8.out Ll c hc
     have I8:j<m.length:=by rw[Na.out.len]; exact Ll
     obtain⟨b,hb⟩:=Nm (m[j]);have HC:=Hs (R.cells.getD j aw.zero=c/\m.getD j aw.zero=b) (⟨by rw[<-hc]; simp[HL8.out,Ll],by rw[<-hb]; simp[I8]⟩);clear hc hb I8
     have LZ:decide ((j:Int)<8)=true:=by simpa using(by omega:(j:Int)<8)
     go_upto_region 8 with fail;obtain⟨w3,Ip⟩:=Nn (wr.alloc (.cells #[.int .i64 c.e,.int .i64 c.n,.string c.d] 62));rw[<-Ip];have HM3:=Hs (MG w m w3) (Ip▸Na.out.over (ay wr _));have Kr:=Hs (w3.heap[wr.heap.size]?=some (.cells #[.int .i64 c.e,.int .i64 c.n,.string c.d] 62 (0,0))) (Ip▸heap_alloc_new wr _);clear Ip;obtain⟨c0,c1,c2⟩:=gv Kr.out
     have I8:j<m.length:=by rw[HM3.out.len]; exact Ll
     obtain⟨⟨b0,b1,b2⟩,-⟩:=px HM3.out.hM I8
     have hb:m[j]=b:=by have:=HC.out.2; simpa[I8] using this
     rw[hb]at b0 b1 b2;obtain⟨X,hX⟩:=Nm (aC c b);have HXX:=Hx hX;have NW:=Hx (λ(w:World)=>xr hX w);clear hb hX I8 hidx
     have JH:wr.heap.size<w3.heap.size:=(Gl Kr.out)
     have hv2:w.heap.size+1<w3.heap.size:=HM3.out.big;have hq:=cH (Below.refl w3.heap.size w3);go_cut [24] (λv wx=>v=.bool X/\Below w3.heap.size w3 wx)
     case first =>
      refine wp_region_quiet_below (by kernel_rfl) (by kernel_rfl) ?_
      repeat(go_big_quiet_step (exact Calls.regrown_of (NW.out _)))
      refine wpQuiet_nil ?_;rintro w' ⟨⟨dq,osq⟩,rfl⟩;go_wp2_with fail;go_meet;exact⟨rfl,below_regrown _ dq osq⟩
     case rest =>
      obtain⟨rfl,b4⟩:=hcut;have HM4:=Hx (HM3.out.over b4);have HX4:=Hx ((b4.block _ JH).trans Kr.out);clear b4 hq c0 c1 c2 b0 b1 b2 JH hv2
      have Jb:=Hs (eM (bV (l.take k)) R.cells (j+1)=if X then m.set j c else m) (by
       show(if aC (R.cells.getD j aw.zero) ((eM (bV (l.take k)) R.cells j).getD j aw.zero) then _ else _)=_
       rw[HM.out,HC.out.1,HC.out.2,HXX.out])
      cases X
      .go_wp2;exact⟨⟨j+1,by omega,by simp,by rw[Jb.out]; exact HM4.out⟩,by simp[intOf]; omega⟩
      .obtain⟨c0,c1,c2⟩:=gv HX4.out
       have I8:j<m.length:=by rw[HM4.out.len]; exact Ll
       obtain⟨⟨b0,b1,b2⟩,f0,f1,f2⟩:=px HM4.out.hM I8
       have hb:m[j]=b:=by have:=HC.out.2; simpa[I8] using this
       rw[hb]at b0 b1 b2;have HP:=Hx (HM4.out.put j c I8);clear hb I8;go_wp2;exact⟨⟨j+1,by omega,by simp,by rw[Jb.out]; exact HP.out⟩,by simp[intOf]; omega⟩
    .obtain rfl:j=8:=by omega
     go_wp2;exact⟨⟨k+1,by omega,by simp,by rw[HMT.out,HM.out]; exact Na.out⟩,by simp[intOf]; omega⟩
  .obtain rfl:k=l.length:=by omega
   have HT:=Hs (bV (l.take l.length)=bV l) (by rw[List.take_length]);have hzm:=Hx (mw (gq (l.take l.length)));go_wp2_with (first|(refine wpList_load_row rfl 63 _ rfl (w.heap.size+1) rfl 63 (flat (bV (l.take l.length))).toArray (0,0) _ Na.out.hM cC.1 rfl (by rw[cC.2,hzm.out]) ?_)|(refine wpList_store_row rfl 63 _ _ rfl w.heap.size (flat (bV (l.take l.length))).toArray rfl rfl 63 (flat du).toArray Na.out.hO (by rw[cC.2,hzm.out]) (by rw[hzm.out]; rfl) (all_oneCell_toArray (uI _)) ?_));refine bodyPost_ret (v:=.agg (flat (bV l)).toArray) (by rw[<-HT.out]; exact eJ Tryz.results113 _ _ w.heap.size 63 _ (0,0) _ rfl (setRow_heap _ _ _ _ _ _ Na.out.hO) cC.1 rfl (by rw[cC.2,hzm.out])) rfl ?_;exact⟨rfl,Na.out.below.trans (((ac.refl (·=w.heap.size) wr).setRow rfl _).below Na.out.below.size (λm hm=>by omega))⟩
def eK (l:List Value)(o:Nat):List Value->List Value
 | []=>l
 | v :: r=>eK (l.set o v) (o+1) r
theorem jF{a b:List Value}{i:Nat}(h:a.length<=i)(v:Value):(a ++ b).set i v=a ++ b.set (i - a.length) v:=by rw[List.set_append,if_neg (by omega)]
theorem qC{a b:List Value}{i:Nat}(h:i<a.length)(v:Value):(a ++ b).set i v=a.set i v ++ b:=by rw[List.set_append,if_pos h]
theorem jl:∀(vs l:List Value) (o:Nat),(eK l o vs).length=l.length
 | [],_,_=>rfl
 | v :: r,l,o=>by unfold eK; rw[jl r]; simp
theorem iK:∀(vs a b:List Value) (o:Nat),eK (a ++ b) (a.length+o) vs=a ++ eK b o vs
 | [],_,_,_=>rfl
 | v :: r,a,b,o=>by unfold eK;rw[jF (by omega),Nat.add_sub_cancel_left];exact iK r a (b.set o v) (o+1)
theorem ij:∀(vs a b:List Value) (o:Nat),o+vs.length<=a.length->eK (a ++ b) o vs=eK a o vs ++ b
 | [],_,_,_,_=>rfl
 | v :: r,a,b,o,h=>by simp only[List.length_cons]at h;unfold eK;rw[qC (by omega)];exact ij r (a.set o v) b (o+1) (by simp; omega)
theorem qF:∀(vs p a:List Value),a.length=vs.length->eK (p ++ a) p.length vs=p ++ vs
 | [],p,a,h=>by obtain rfl:=List.length_eq_zero_iff.1 (h.trans rfl); rfl
 | v :: r,p,[],h=>by simp at h
 | v :: r,p,x :: a,h=>by unfold eK;rw[jF (by omega),Nat.sub_self,List.set_cons_zero];have:=qF r (p ++ [v]) a (by simpa using h);simpa using this
theorem oQ{vs a:List Value}(h:a.length=vs.length):eK a 0 vs=vs:=by simpa using qF vs [] a h
theorem cd{N:Nat}{T:TypeId}:∀(vs:List Value) (o:Nat) (w:World) (cs:Array Value),w.heap[N]?=some (.cells cs T (0,0))->(w.setCells N o vs).heap[N]?=some (.cells (eK cs.toList o vs).toArray T (0,0))
 | [],_,_,_,h=>h
 | v :: r,o,w,cs,h=>by have:=cd r (o+1) (w.setCell ⟨N,o,none⟩ v) _ (block_setCell h v);unfold World.setCells eK;simpa using this
theorem ac.setCells{S:Nat->Prop}{N:Nat}(hN:S N):∀(vs:List Value) (o:Nat) (a w:World),ac S a w->ac S a (w.setCells N o vs)
 | [],_,_,_,h=>h
 | v :: r,o,a,w,h=>by unfold World.setCells;exact ac.setCells hN r (o+1) a _ (h.setCell hN v)
structure Gp where
 r:List Rp
 u:List Bool
structure Gp.ok (g:Gp):Prop where
 r3:g.r.length=3
 u3:g.u.length=3
 c8:∀r∈g.r,r.cells.length=8
def eP(l:List Rp):List Value:=l.flatMap (λr=>r.arr.toList)
def Gp.arr(g:Gp):Array Value:=(eP g.r ++ g.u.map Value.bool).toArray
theorem dX:∀(l:List Rp),(∀r∈l,r.cells.length=8)->(eP l).length=l.length*25
 | [],_=>rfl
 | r :: l,h=>by have ih:=dX l (λq hq=>h q (by simp[hq]));have hz:=Rp.size (h r (by simp));simp only[eP,List.flatMap_cons,List.length_append,Array.length_toList,List.length_cons]at ih ⊢;omega
theorem py:∀(l:List Rp),(∀r∈l,r.cells.length=8)->∀(i:Nat) (h:i<l.length) (j:Nat),j<25->(eP l)[i*25+j]?=l[i].arr[j]?
 | r :: l,h8,0,_,j,hj=>by
  have hz:=Rp.size (h8 r (by simp));simp only[eP,List.flatMap_cons];rw[List.getElem?_append_left (by simp; omega)];simp
 | r :: l,h8,i+1,h,j,hj=>by have hz:=Rp.size (h8 r (by simp));have:=py l (λq hq=>h8 q (by simp[hq])) i (by simpa using h) j hj;simp only[eP,List.flatMap_cons]at this ⊢;rw[List.getElem?_append_right (by simp; omega)];simp only[Array.length_toList,hz];rw[show(i+1)*25+j - 25=i*25+j from by omega];simpa using this
theorem qZ:∀(l:List Rp),(∀r∈l,r.cells.length=8)->∀(i:Nat) (h:i<l.length) (o:Nat) (vs:List Value) (r':Rp),o+vs.length<=25->eK l[i].arr.toList o vs=r'.arr.toList ->
  eK (eP l) (i*25+o) vs=eP (l.set i r')
 | x :: l,h8,0,_,o,vs,r',ho,hp=>by
  have hz:=Rp.size (h8 x (by simp));simp only[eP,List.flatMap_cons,List.set_cons_zero,Nat.zero_mul,Nat.zero_add];rw[ij _ _ _ _ (by simp; omega)];exact congrArg (· ++ _) hp
 | x :: l,h8,i+1,h,o,vs,r',ho,hp=>by have hz:=Rp.size (h8 x (by simp));have ih:=qZ l (λq hq=>h8 q (by simp[hq])) i (by simpa using h) o vs r' ho hp;simp only[eP,List.flatMap_cons,List.set_cons_succ]at ih ⊢;rw[show(i+1)*25+o=x.arr.toList.length+(i*25+o) from by simp; omega,iK,ih]
theorem zk(l:List Rp):∀v∈eP l,v.oneCell'=true:=by intro v hv;simp only[eP,List.mem_flatMap]at hv;obtain⟨r,_,h⟩:=hv;exact(Array.all_eq_true_iff_forall_mem.1 r.one) v (by simpa using h)
theorem Gp.one(g:Gp):g.arr.all (·.oneCell')=true:=by
 unfold Gp.arr;apply all_oneCell_toArray;intro v hv
 rcases List.mem_append.1 hv with h | h
 .exact zk _ v h
 .simp only[List.mem_map]at h;obtain⟨b,_,rfl⟩:=h; rfl
theorem Gp.size{g:Gp}(h:g.ok):g.arr.size=78:=by unfold Gp.arr;simp[dX g.r h.c8,h.r3,h.u3]
theorem Gp.atR{g:Gp}(h:g.ok){i:Nat}(hi:i<g.r.length){j:Nat}(hj:j<25):g.arr[i*25+j]?=g.r[i].arr[j]?:=by unfold Gp.arr;have hl:=dX g.r h.c8;rw[List.getElem?_toArray,List.getElem?_append_left (by have:=h.r3; omega)];exact py g.r h.c8 i hi j hj
theorem Gp.atU{g:Gp}(h:g.ok){i:Nat}(hi:i<g.u.length):g.arr[75+i]?=some (.bool g.u[i]):=by unfold Gp.arr;have hl:=dX g.r h.c8;have h3:=h.r3;rw[List.getElem?_toArray,List.getElem?_append_right (by omega),show 75+i - (eP g.r).length=i from by omega];simp[hi]
def Gp.setR(g:Gp)(i:Nat)(r:Rp):Gp:=⟨g.r.set i r,g.u⟩
def Gp.setU(g:Gp)(i:Nat)(b:Bool):Gp:=⟨g.r,g.u.set i b⟩
theorem Gp.ok.setR{g:Gp}(h:g.ok)(i:Nat){r:Rp}(hr:r.cells.length=8):(g.setR i r).ok :=
 ⟨by simp[Gp.setR,h.r3],h.u3,λq hq=>by
  rcases List.mem_or_eq_of_mem_set hq with h1 | h1
  .exact h.c8 q h1
  .rw[h1]; exact hr⟩
theorem Gp.ok.setU{g:Gp}(h:g.ok)(i:Nat)(b:Bool):(g.setU i b).ok:=⟨h.r3,by simp[Gp.setU,h.u3],h.c8⟩
theorem Gp.putR{g:Gp}(h:g.ok){i:Nat}(hi:i<g.r.length)(o:Nat)(vs:List Value)(r':Rp)(ho:o+vs.length<=25)(hp:eK g.r[i].arr.toList o vs=r'.arr.toList) : (eK g.arr.toList (i*25+o) vs).toArray=(g.setR i r').arr:=by
 unfold Gp.arr Gp.setR;have hl:=dX g.r h.c8;congr 1;rw[ij _ _ _ _ (by have:=h.r3; omega),qZ g.r h.c8 i hi o vs r' ho hp]
theorem Gp.putU{g:Gp}(h:g.ok){i:Nat}(b:Bool):g.arr.setIfInBounds (75+i) (.bool b)=(g.setU i b).arr:=by unfold Gp.arr Gp.setU;have hl:=dX g.r h.c8;have h3:=h.r3;apply Array.toList_inj.1;simp only[Array.toList_setIfInBounds];rw[jF (by omega),show 75+i - (eP g.r).length=i from by omega];simp[List.map_set]
theorem aj:Tryz.prog.underlying 69=some (.struct (Tryz.prog.fieldsOf 69))/\(Tryz.prog.info? 69).map (·.size)=some 78:=by constructor<;>kernel_rfl
section
variable {w:World} {N i:Nat} {g:Gp} {T:TypeId}
theorem ee(h:w.heap[N]?=some (.cells g.arr T (0,0)))(hg:g.ok)(hi:i<g.r.length):w.cell? ⟨N,i*25,none⟩=some (.int .i64 g.r[i].floor)/\w.frozen? ⟨N,i*25,none⟩=false:=by have:=Gp.atR hg hi (j:=0) (by omega);rw[Nat.add_zero,Rp.at0]at this;simp[World.cell?,World.frozen?,h,this]
theorem ju(h:w.heap[N]?=some (.cells g.arr T (0,0)))(hg:g.ok)(hi:i<g.u.length):w.cell? ⟨N,75+i,none⟩=some (.bool g.u[i])/\w.frozen? ⟨N,75+i,none⟩=false:=by have:=Gp.atU hg hi;simp[World.cell?,World.frozen?,h,this]
theorem eO(h:w.heap[N]?=some (.cells g.arr T (0,0)))(hg:g.ok)(hi:i<g.r.length):w.rangeAt N (i*25) g.r[i].arr.toList/\w.there N (i*25) 25:=by
 have h8:=Rp.size (hg.c8 _ (List.getElem_mem hi))
 have h1:w.rangeAt N (i*25) g.r[i].arr.toList:=λj v hv=>by
  have hj:j<25:=by have:=(List.getElem?_eq_some_iff.1 hv).1;simp at this; omega
  rw[cell_of_row w N (i*25+j) g.arr T (0,0) h,Gp.atR hg hi hj];simpa using hv
 refine⟨h1,λj hj=>⟨h1.isSome j (by simp; omega),?_⟩⟩;simp[World.frozen?,h]
theorem Eq{k:Nat}(h:w.heap[N]?=some (.cells g.arr T (0,0)))(hg:g.ok)(hi:i<g.r.length)(hk:k<g.r[i].cells.length) : (w.cell? ⟨N,i*25+(1+k*3),none⟩=some (.int .i64 g.r[i].cells[k].e)/\w.cell? ⟨N,i*25+(1+k*3+1),none⟩=some (.int .i64 g.r[i].cells[k].n)/\w.cell? ⟨N,i*25+(1+k*3+2),none⟩=some (.string g.r[i].cells[k].d)) /\ w.frozen? ⟨N,i*25+(1+k*3),none⟩=false/\w.frozen? ⟨N,i*25+(1+k*3+1),none⟩=false/\w.frozen? ⟨N,i*25+(1+k*3+2),none⟩=false:=by
 have h8:=hg.c8 _ (List.getElem_mem hi);obtain⟨h1,h2,h3⟩:=g.r[i].at hk;have e0:=Gp.atR hg hi (j:=1+k*3) (by omega);have e1:=Gp.atR hg hi (j:=1+k*3+1) (by omega);have e2:=Gp.atR hg hi (j:=1+k*3+2) (by omega);rw[h1]at e0;rw[h2]at e1;rw[h3]at e2;simp[World.cell?,World.frozen?,h,e0,e1,e2]
theorem nJ(h:w.heap[N]?=some (.cells g.arr T (0,0)))(hg:g.ok)(hi:i<g.r.length){r:Rp}(hr:r.cells.length=8):(w.setCells N (i*25) r.arr.toList).heap[N]?=some (.cells (g.setR i r).arr T (0,0)):=by have hz:=Rp.size hr;have hy:=Rp.size (hg.c8 _ (List.getElem_mem hi));rw[cd _ _ _ _ h,<-Gp.putR hg hi 0 r.arr.toList r (by simp; omega) (oQ (by simp; omega)),Nat.add_zero]
theorem Ep{k:Nat}(h:w.heap[N]?=some (.cells g.arr T (0,0)))(hg:g.ok)(hi:i<g.r.length)(hk:k<g.r[i].cells.length)(c:aw) : (((w.setCell ⟨N,i*25+(1+k*3),none⟩ (.int .i64 c.e)).setCell ⟨N,i*25+(1+k*3+1),none⟩ (.int .i64 c.n)).setCell ⟨N,i*25+(1+k*3+2),none⟩ (.string c.d)).heap[N]?=some (.cells (g.setR i ⟨g.r[i].floor,g.r[i].cells.set k c⟩).arr T (0,0)):=by
 have h8:=hg.c8 _ (List.getElem_mem hi)
 have e:=Gp.putR hg hi (1+k*3) c.vs ⟨g.r[i].floor,g.r[i].cells.set k c⟩ (by simp[aw.vs]; omega) (by
  have:=congrArg Array.toList (Rp.set g.r[i] c hk)
  simpa[eK,aw.vs,Nat.add_assoc] using this)
 rw[<-e];have:=cd c.vs (i*25+(1+k*3)) w _ h;simpa[World.setCells,aw.vs,Nat.add_assoc] using this
theorem ef{k:Nat}(h:w.heap[N]?=some (.cells g.arr T (0,0)))(hg:g.ok)(hi:i<g.r.length)(hk:k<g.r[i].cells.length) : (w.cell? ⟨N,i*25+1+k*3,none⟩=some (.int .i64 g.r[i].cells[k].e)/\w.cell? ⟨N,i*25+1+k*3+1,none⟩=some (.int .i64 g.r[i].cells[k].n)/\w.cell? ⟨N,i*25+1+k*3+2,none⟩=some (.string g.r[i].cells[k].d)) /\ w.frozen? ⟨N,i*25+1+k*3,none⟩=false/\w.frozen? ⟨N,i*25+1+k*3+1,none⟩=false/\w.frozen? ⟨N,i*25+1+k*3+2,none⟩=false:=by
 simpa only [Nat.add_assoc] using Eq h hg hi hk
theorem uF{k:Nat}(h:w.heap[N]?=some (.cells g.arr T (0,0)))(hg:g.ok)(hi:i<g.r.length)(hk:k<g.r[i].cells.length)(c:aw) : (((w.setCell ⟨N,i*25+1+k*3,none⟩ (.int .i64 c.e)).setCell ⟨N,i*25+1+k*3+1,none⟩ (.int .i64 c.n)).setCell ⟨N,i*25+1+k*3+2,none⟩ (.string c.d)).heap[N]?=some (.cells (g.setR i ⟨g.r[i].floor,g.r[i].cells.set k c⟩).arr T (0,0)):=by
 simpa only [Nat.add_assoc] using Ep h hg hi hk c
theorem xG(h:w.heap[N]?=some (.cells g.arr T (0,0)))(hg:g.ok)(b:Bool):(w.setCell ⟨N,75+i,none⟩ (.bool b)).heap[N]?=some (.cells (g.setU i b).arr T (0,0)):=by rw[block_setCell h,Gp.putU hg]
theorem Eo(h:w.heap[N]?=some (.cells g.arr T (0,0)))(hg:g.ok)(hi:i<g.r.length)(f:Int):(w.setCell ⟨N,i*25,none⟩ (.int .i64 f)).heap[N]?=some (.cells (g.setR i ⟨f,g.r[i].cells⟩).arr T (0,0)):=by
 have e:=Gp.putR hg hi 0 [.int .i64 f] ⟨f,g.r[i].cells⟩ (by simp) (by
  have:=congrArg Array.toList (Rp.setFloor g.r[i] f)
  simpa[eK] using this)
 rw[<-e];have:=cd [.int .i64 f] (i*25+0) w _ h;simpa[World.setCells] using this
end
def Gp.isM(g:Gp)(epoch:Int)(i:Nat):Bool:=g.u.getD i false && decide ((g.r.getD i Rp.zero).floor=epoch)
def Gp.memTo(g:Gp)(epoch:Int)(n:Nat):List Int:=((List.range n).filter (g.isM epoch)).map Int.ofNat
def Gp.mem(g:Gp)(epoch:Int):List Int:=g.memTo epoch 3
theorem Gp.mem_succ(g:Gp)(epoch:Int)(n:Nat):g.memTo epoch (n+1)=g.memTo epoch n ++ (if g.isM epoch n then [(n:Int)] else []):=by
 unfold Gp.memTo;rw[List.range_succ,List.filter_append,List.map_append];congr 1
 cases h:g.isM epoch n<;>simp[h]
theorem Gp.mem_len(g:Gp)(epoch:Int)(n:Nat):(g.memTo epoch n).length<=n:=by unfold Gp.memTo;rw[List.length_map];exact Nat.le_trans (List.length_filter_le _ _) (by simp)
theorem Gp.mem_lt{g:Gp}{epoch:Int}{n:Nat}{x:Int}(h:x∈g.memTo epoch n):∃i:Nat,x=i/\i<n/\g.isM epoch i=true:=by unfold Gp.memTo at h;simp only[List.mem_map,List.mem_filter,List.mem_range]at h;obtain⟨i,⟨h1,h2⟩,rfl⟩:=h;exact⟨i,rfl,h1,h2⟩
section
variable {P:Program} {ops:Array Oper} {rest:List Oper} {op:Oper} {a:Act} {w:World} {Q:Exit->Act->World->Prop}
theorem lI(I9:op.guard=none)(ty:TypeId)(x:Operand)(ho:op.op=.load ty x)(h:∃(b o:Nat) (cs:Array Value) (d:TypeDesc),a.eval x=.pointer (some ⟨b,o,none⟩)/\w.rangeAt b o cs.toList/\P.underlying ty=some d/\d.isRow=true/\(P.info? ty).map (·.size)=some cs.size/\wpList P ops Q rest (a.put op.dst (.agg cs)) w):wpList P ops Q (op :: rest) a w:=by
 obtain⟨b,o,cs,d,h1,h2,h3,h4,h5,h6⟩:=h;exact eU I9 ty x ho b o h1 cs d h2 h3 h4 h5 h6
theorem eZ(I9:op.guard=none)(ty:TypeId)(x y:Operand)(ho:op.op=.store ty x y)(h:∃(b o:Nat) (cs:Array Value),a.eval x=.pointer (some ⟨b,o,none⟩)/\a.eval y=.agg cs/\w.there b o cs.size/\(P.info? ty).map (·.size)=some cs.size/\cs.all (·.oneCell')=true/\wpList P ops Q rest (a.put op.dst undef) (w.setCells b o cs.toList)):wpList P ops Q (op :: rest) a w:=by
 obtain⟨b,o,cs,h1,h2,h3,h4,h5,h6⟩:=h;exact wpList_store_mid I9 ty x y ho b o cs h1 h2 h3 h4 h5 h6
theorem bU(I9:op.guard=none)(ty:TypeId)(x:Operand)(ho:op.op=.load ty x)(h:∃(g:Nat) (t:TypeId) (cs:Array Value) (d:TypeDesc),a.eval x=.pointer (some ⟨g,0,none⟩)/\w.heap[g]?=some (.cells cs t (0,0))/\P.underlying ty=some d/\d.isRow=true/\(P.info? ty).map (·.size)=some cs.size/\wpList P ops Q rest (a.put op.dst (.agg cs)) w):wpList P ops Q (op :: rest) a w:=by
 obtain⟨g,t,cs,d,h1,h2,h3,h4,h5,h6⟩:=h;exact wpList_load_row I9 ty x ho g h1 t cs (0,0) d h2 h3 (by cases d<;>simp_all) h5 h6
theorem cu(I9:op.guard=none)(ty:TypeId)(x y:Operand)(ho:op.op=.store ty x y)(h:∃(g:Nat) (t:TypeId) (cs old:Array Value),a.eval x=.pointer (some ⟨g,0,none⟩)/\a.eval y=.agg cs/\w.heap[g]?=some (.cells old t (0,0))/\(P.info? ty).map (·.size)=some cs.size/\old.size=cs.size/\cs.all (·.oneCell')=true/\wpList P ops Q rest (a.put op.dst undef) (w.setRow g cs)):wpList P ops Q (op :: rest) a w:=by
 obtain⟨g,t,cs,old,h1,h2,h3,h4,h5,h6,h7⟩:=h;exact wpList_store_row I9 ty x y ho g cs h1 h2 t old h3 h4 h5 h6 h7
end
def Gp.zero:Gp:=⟨List.replicate 3 Rp.zero,List.replicate 3 false⟩
def Gp.start:Gp:=⟨List.replicate 3 Rp.start,List.replicate 3 true⟩
def Gp.startTo(k:Nat):Gp:=⟨List.replicate k Rp.start ++ List.replicate (3 - k) Rp.zero,List.replicate k true ++ List.replicate (3 - k) false⟩
theorem Gp.zero_ok:Gp.zero.ok:=⟨rfl,rfl,λr hr=>by simp[Gp.zero]at hr; subst hr; rfl⟩
theorem km(k:Nat)(hk:k<=3):(Gp.startTo k).ok:=by
 refine⟨by simp[Gp.startTo]; omega,by simp[Gp.startTo]; omega,λr hr=>?_⟩;simp only[Gp.startTo,List.mem_append,List.mem_replicate]at hr
 rcases hr with⟨-,rfl⟩ | ⟨-,rfl⟩<;>rfl
theorem rG(k:Nat)(hk:k<3):((Gp.startTo k).setR k Rp.start).setU k true=Gp.startTo (k+1):=by rcases (by omega:k=0\/k=1\/k=2) with rfl | rfl | rfl<;>rfl
theorem aS:Tryz.zeroCells69=Gp.zero.arr:=by kernel_rfl
theorem Cb(w:World):Calls Tryz.prog 39 #[] w λe w'=>e=.returned (.agg Gp.start.arr)/\Below w.heap.size w w':=by
 go_enter Tryz.func39,Tryz.ntmps39
 go_upto_region 2 with fail;obtain⟨w1,pX⟩:=Nn ((w.alloc (.cells Gp.zero.arr 69)).alloc (.cells Gp.zero.arr 69));rw[<-aS]at pX;rw[<-pX];rw[aS]at pX;have HB:=Hs (Below w.heap.size w w1) (pX▸(ay w _).alloc (by simp) _);have HO:=Hs (w1.heap[w.heap.size]?=some (.cells Gp.zero.arr 69 (0,0))) (pX▸heap_alloc2_old w _ _);have HG:=Hs (w1.heap[w.heap.size+1]?=some (.cells Gp.zero.arr 69 (0,0))) (pX▸heap_alloc2_new w _ _);clear pX;go_wp2;go_loopw [3] (λi wr=>∃k:Nat,k<=3/\i=.int .i64 k/\wr.heap[w.heap.size+1]?=some (.cells (Gp.startTo k).arr 69 (0,0))/\wr.heap[w.heap.size]?=some (.cells Gp.zero.arr 69 (0,0))/\Below w.heap.size w wr) (λi _=>3 - (intOf i).toNat)
 case atStart=>exact⟨0,by omega,rfl,HG.out,HO.out,HB.out⟩
 case round =>
  obtain⟨k,hk,rfl,hG,hO,hB⟩:=hrel;by_cases Jo:k<3
  .have ok:=km k hk
   have IE:k<(Gp.startTo k).r.length:=by rw[ok.r3]; exact Jo
   have HX:=Hx hG;have HY:=Hx hO;have HZ:=Hx hB;have OK:=Hx ok;have HKR:=Hx IE;clear hG hO hB ok IE HO HG HB;go_wp2_with fail;refine(new_any _).mono ?_;rintro e w3 ⟨rfl,b3⟩;obtain⟨S,hS⟩:=Nm Rp.start;rw[hS];have HS:=Hs (((Gp.startTo k).setR k S).setU k true=Gp.startTo (k+1)) (hS▸rG k Jo)
   have S8:S.cells.length=8:=by rw[<-hS]; rfl
   have Kr:=Hx ((b3.block _ (Gl HX.out)).trans HX.out);have KJ:=Hx ((b3.block _ (Gl HY.out)).trans HY.out);have HZ3:=Hx (HZ.out.trans (b3.mono HZ.out.size));clear HX HY HZ b3 hS;have Z3:=Hx (Rp.size S8);have TH:=Hs (w3.there (w.heap.size+1) (k*25) S.arr.size) (by rw[Z3.out]; exact(eO Kr.out OK.out HKR.out).2);have W3:=Hx (nJ Kr.out OK.out HKR.out S8);have OK3:=Hx (OK.out.setR k S8);clear S8;obtain⟨u0,u1⟩:=ju W3.out OK3.out (i:=k) (by rw[OK3.out.u3]; exact Jo);have W4:=Hx (xG W3.out OK3.out (i:=k) true);have K4:=Hx ((ac.setCells (S:=(·=w.heap.size+1)) rfl S.arr.toList (k*25) w3 w3 (ac.refl _ _)).setCell (p:=⟨w.heap.size+1,75+k,none⟩) rfl (.bool true));go_wp2_with ((with_reducible refine eZ rfl 65 _ _ rfl ?_); refine⟨w.heap.size+1,k*25,S.arr,rfl,rfl,TH.out,by rw[bu.2.1,Z3.out],Rp.one _,?_⟩);go_roundw
   case rel=>exact⟨k+1,by omega,by go_num,by rw[<-HS.out]; exact W4.out,(K4.out.block _ (by omega) (Gl KJ.out)).trans KJ.out,HZ3.out.trans (K4.out.below HZ3.out.size (λm hm=>by omega))⟩
   case measure=>simp[intOf]; omega
  .obtain rfl:k=3:=by omega
   obtain⟨G,hGS⟩:=Nm (Gp.startTo 3);have ok:=km 3 (by omega);rw[hGS]at hG ok;have HE:=Hs (Gp.start=G) (hGS▸rfl);have Z:=Hx (Gp.size ok);have HX:=Hx hG;have HY:=Hx hO;have HZ:=Hx hB;clear hGS ok hG hO hB HO HG HB;go_wp2_with (first|((with_reducible refine bU rfl 69 _ rfl ?_); refine⟨w.heap.size+1,_,G.arr,_,rfl,HX.out,aj.1,rfl,by rw[aj.2,Z.out],?_⟩)|((with_reducible refine cu rfl 69 _ _ rfl ?_); refine⟨w.heap.size,_,G.arr,_,rfl,rfl,HY.out,by rw[aj.2,Z.out],by rw[Z.out]; rfl,Gp.one _,?_⟩));refine bodyPost_ret (v:=.agg G.arr) (eJ Tryz.results39 _ _ w.heap.size 69 G.arr (0,0) _ rfl (setRow_heap _ _ _ _ _ _ HY.out) aj.1 rfl (by rw[aj.2,Z.out])) rfl ?_;exact⟨by rw[HE.out],HZ.out.trans (((ac.refl (·=w.heap.size) wr).setRow rfl _).below HZ.out.size (λm hm=>by omega))⟩
theorem gR(g:Gp)(epoch:Int)(w:World)(hg:g.ok):Calls Tryz.prog 112 #[.agg g.arr,.int .i64 epoch] w λe w'=>∃a c,e=.returned (.slice a (g.mem epoch).length c)/\bh (w.heap.size+1) w' (.slice a (g.mem epoch).length c) (g.mem epoch)/\Below w.heap.size w w':=by
 have OK:=Hx hg;clear hg;go_enter Tryz.func112,Tryz.ntmps112
 go_upto_region 2 with fail;obtain⟨w1,pX⟩:=Nn (w.alloc (.cells g.arr 69));rw[<-pX];have HB:=Hs (Below w.heap.size w w1) (pX▸ay w _);have HG:=Hs (w1.heap[w.heap.size]?=some (.cells g.arr 69 (0,0))) (pX▸heap_alloc_new w _);clear pX;go_wp2;go_loopw [5,7] (λv i wr=>∃k:Nat,k<=3/\i=.int .i64 k/\bh (w.heap.size+1) wr v (g.memTo epoch k)/\wr.heap[w.heap.size]?=some (.cells g.arr 69 (0,0))/\Below w.heap.size w wr) (λ_ i _=>3 - (intOf i).toNat)
 case atStart=>exact⟨0,by omega,rfl,⟨rfl,.inl ⟨rfl,rfl⟩⟩,HG.out,HB.out⟩
 case round =>
  obtain⟨k,hk,rfl,hO,hG,hB⟩:=hrel;obtain⟨L,hL⟩:=Nm (g.memTo epoch k);rw[hL]at hO;obtain⟨av,cv,rfl,-⟩:=hO.shape;have hLk:L.length<=k:=hL▸g.mem_len epoch k;obtain⟨n,hn⟩:=Nm L.length;have Nz:=Hx hn;have HL:=Hx hL;rw[hn]at hLk hO ⊢;have HO:=Hx hO;have HX:=Hx hG;have HZ:=Hx hB;clear hO hG hB HG HB hn hL;by_cases Jo:k<3
  .have IE:k<g.r.length:=by rw[OK.out.r3]; exact Jo
   have Lx:k<g.u.length:=by rw[OK.out.u3]; exact Jo
   obtain⟨u0,-⟩:=ju HX.out OK.out Lx;obtain⟨f0,-⟩:=ee HX.out OK.out IE;obtain⟨U,hU⟩:=Nm (g.u[k]);obtain⟨F,hF⟩:=Nm (g.r[k].floor);rw[hU]at u0;rw[hF]at f0;have HM:=Hs (g.isM epoch k=(U && decide (F=epoch))) (by unfold Gp.isM; rw[<-hU,<-hF]; simp[Lx,IE]);have HSU:=Hx (g.mem_succ epoch k);clear hU hF IE Lx;cases U
   .have HE:=Hs (g.memTo epoch (k+1)=L) (by rw[HSU.out,HM.out,HL.out]; simp);clear f0;go_wp2;go_roundw
    case rel=>exact⟨k+1,by omega,by go_num,by rw[HE.out]; exact HO.out,HX.out,HZ.out⟩
    case measure=>simp[intOf]; omega
   .by_cases hF:F=epoch
    .have eb:(F == epoch)=true:=by simp[hF]
     have HE:=Hs (g.memTo epoch (k+1)=L ++ [(k:Int)]) (by rw[HSU.out,HM.out,HL.out]; simp[hF]);clear hF;obtain⟨i0,hi,Ij,Ii,Im⟩:=info_parts Tryz.infoInt
     have OW:=Hx (λo=>show(wr.alloc o).ownsRow (w.heap.size+1) 3 1 (.slice av n cv) n (L.map (Value.int .i64)) from by
      have:=HO.out.below (ay wr o);unfold bh at this
      rwa [Nz.out]at this)
     go_wp2_with (at_builtin; refine wpList_append_own _ rfl _ _ 71 rfl (w.heap.size+1) 3 i0 (.int .i64 0) 1 8 Tryz.underlying71 hi Ij Ii Im rfl (by decide) _ _ _ rfl (OW.out _) ⟨wr.heap.size,0,none⟩ 1 1 [.int .i64 k] rfl rfl ?c1 ?c2 ?c3 ?c4 ?c5 ?_)
     case c1 =>
      intro j u hj
      match j,hj with
      | 0,hj=>simp at hj; subst hj; simp[Addr.add]
     case c2=>intro u hu; simp at hu; subst hu; rfl
     case c3=>unfold maxLen; omega
     case c4=>omega
     case c5=>exact Nat.le_trans (Gl HX.out) (ay wr _).size
     intro v' w7 jZ Il _;have HN:=Hs (bh (w.heap.size+1) w7 v' (g.memTo epoch (k+1))) (by rw[HE.out]; simpa[bh,Nz.out] using jZ)
     have HX7:=Hs (w7.heap[w.heap.size]?=some (.cells g.arr 69 (0,0))) (by
      have lB:=(Gl HX.out)
      rw[Il.block w.heap.size (by simp; omega) (λe=>by have:=HO.out.blk _ e.symm; omega),Below.heap_alloc _ _ _ lB]
      exact HX.out)
     have HZ7:=Hx ((HZ.out.trans ((ay wr _).mono HZ.out.size)).grown Il (Nat.le_trans HZ.out.size (ay wr _).size) (λm hm=>by have:=HO.out.blk m hm; omega));clear jZ Il;go_wp2;go_roundw
     case rel=>exact⟨k+1,by omega,by go_num,HN.out,HX7.out,HZ7.out⟩
     case measure=>simp[intOf]; omega
    .have eb:(F == epoch)=false:=by simp[hF]
     have HE:=Hs (g.memTo epoch (k+1)=L) (by rw[HSU.out,HM.out,HL.out]; simp[hF]);clear hF;go_wp2;go_roundw
     case rel=>exact⟨k+1,by omega,by go_num,by rw[HE.out]; exact HO.out,HX.out,HZ.out⟩
     case measure=>simp[intOf]; omega
  .obtain rfl:k=3:=by omega
   have HLL:=Hs (g.mem epoch=L) HL.out;go_wp2;go_ret;exact⟨av,cv,by rw[HLL.out,Nz.out]; rfl,by rw[HLL.out,Nz.out]; exact HO.out,HZ.out⟩
