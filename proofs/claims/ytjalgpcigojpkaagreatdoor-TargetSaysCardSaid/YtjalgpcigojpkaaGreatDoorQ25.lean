import Derived.Test.YtjalgpcigojpkaaGreatDoorQ24
set_option maxRecDepth 99999
set_option maxHeartbeats 99999999
namespace Go.Proofs.YtjalgpcigojpkaaGreatDoor
section
open Go.RowKit Go.Lib Go.Sort
theorem cB(x:Bs)(w:World)(t:Tabs w)(hs:x.length<=200) : Calls Tryz.prog 168 #[.string (aQ x)] w λe w'=>e=.returned (.int .i64 (aE x))/\Below w.heap.size w w':=by
 have:=vO (aQ x) w t (by rw[bp]; omega);rw[dz]at this;exact this
theorem CS(x:Bs)(w:World)(t:Tabs w)(hs:x.length<=200) : Calls Tryz.prog 169 #[.string (aQ x),.string ⟨#[58]⟩] w λe w'=>e=.returned (.tuple #[.string (aQ (Lib.cut x [58]).1),.string (aQ (Lib.cut x [58]).2.1),.bool (Lib.cut x [58]).2.2])/\Below w.heap.size w w':=by
 have:=EE (aQ x) w t (by rw[bp]; omega);rw[dz]at this;exact this
theorem iG{P:Program}{fn:Func}{p q:Tmp}{ty:TypeId}(h:fn.results=#[.cell p ty,.tmp q])(tmps:Array Value)(w:World)(g:Nat)(t:TypeId)(cs:Array Value)(d:TypeDesc)(v:Value)
  (hp:tmps.getD p undef=.pointer (some ⟨g,0,none⟩)) (hq:tmps.getD q undef=v) (hg:w.heap[g]?=some (.cells cs t (0,0)))
  (hu:P.underlying ty=some d) (hd:(match d with | .struct _ | .array _ _=>true | _=>false)=true) (hi:(P.info? ty).map (·.size)=some cs.size) :
  (results fn tmps).run P w=.ok (.tuple #[.agg cs,v]) w:=by
 have JJ:tmps[p]?.getD undef=.pointer (some ⟨g,0,none⟩):=by simpa using hp
 have MQ:tmps[q]?.getD undef=v:=by simpa using hq
 simp[results,h,JJ,MQ,asAddr,run_loadVar_row w g t ty cs (0,0) d hg hu hd hi]
theorem br:Tryz.prog.underlying 34=some (.struct (Tryz.prog.fieldsOf 34))/\(Tryz.prog.info? 34).map (·.size)=some 5:=by constructor<;>kernel_rfl
theorem one_setCell{w:World}{M o:Nat}{cs:Array Value}{T:TypeId}(h:w.heap[M]?=some (.cells cs T (0,0)))(u:Value):(w.setCell ⟨M,o,none⟩ u).heap[M]?=some (.cells (cs.setIfInBounds o u) T (0,0)):=by simp only[World.setCell,Array.getElem?_modify,if_pos,h];rfl
def five (wx:World)(T:Nat)(v0 v1 v2 v3 v4:Value):World:=((((wx.setCell ⟨T,0,none⟩ v0).setCell ⟨T,1,none⟩ v1).setCell ⟨T,2,none⟩ v2).setCell ⟨T,3,none⟩ v3).setCell ⟨T,4,none⟩ v4
theorem dF{wx:World}{T:Nat}{x0 x1 x2 x3 x4:Value}{Ty:TypeId}(h:wx.heap[T]?=some (.cells #[x0,x1,x2,x3,x4] Ty (0,0)))(v0 v1 v2 v3 v4:Value):(five wx T v0 v1 v2 v3 v4).heap[T]?=some (.cells #[v0,v1,v2,v3,v4] Ty (0,0)) :=
 one_setCell (one_setCell (one_setCell (one_setCell (one_setCell h v0) v1) v2) v3) v4
theorem bW{B:Nat}{a wx:World}(h:Below B a wx){T:Nat}(hT:B<=T)(v0 v1 v2 v3 v4:Value):Below B a (five wx T v0 v1 v2 v3 v4) :=
 ((((h.setCell (p:=⟨T,0,none⟩) hT v0).setCell (p:=⟨T,1,none⟩) hT v1).setCell (p:=⟨T,2,none⟩) hT v2).setCell (p:=⟨T,3,none⟩) hT v3).setCell (p:=⟨T,4,none⟩) hT v4
theorem lS{wx:World}{T k:Nat}(h:k≠T)(v0 v1 v2 v3 v4:Value):(five wx T v0 v1 v2 v3 v4).heap[k]?=wx.heap[k]?:=by unfold five;rw[Below.heap_setCell _ _ _ _ h,Below.heap_setCell _ _ _ _ h,Below.heap_setCell _ _ _ _ h,Below.heap_setCell _ _ _ _ h,Below.heap_setCell _ _ _ _ h]
theorem bj.five{w:World}{s:St}{a:Option Addr}(h:bj w s a){T:Nat}(hT:∀b o,a=some ⟨b,o,none⟩->b≠T)(v0 v1 v2 v3 v4:Value):bj (five w T v0 v1 v2 v3 v4) s a:=by refine⟨h.len,λi hi=>?_⟩;obtain⟨b,o,rfl,hb,c1,c2⟩:=h.rep i hi;have hn:=lS (wx:=w) (hT b o rfl) v0 v1 v2 v3 v4;exact⟨b,o,rfl,by show b<(Go.Proofs.YtjalgpcigojpkaaGreatDoor.five w T v0 v1 v2 v3 v4).heap.size; unfold Go.Proofs.YtjalgpcigojpkaaGreatDoor.five; simpa[World.setCell] using hb,(World.cell?_of_block (a:=⟨b,o+i*2,none⟩) hn).trans c1,(World.cell?_of_block (a:=⟨b,o+i*2+1,none⟩) hn).trans c2⟩
theorem cells5{W:World}{b:Nat}{v0 v1 v2 v3 v4:Value}{T:TypeId}(h:W.heap[b]?=some (.cells #[v0,v1,v2,v3,v4] T (0,0))) : (W.cell? ⟨b,0,none⟩=some v0/\W.cell? ⟨b,1,none⟩=some v1/\W.cell? ⟨b,2,none⟩=some v2/\W.cell? ⟨b,3,none⟩=some v3/\W.cell? ⟨b,4,none⟩=some v4) /\ (W.frozen? ⟨b,0,none⟩=false/\W.frozen? ⟨b,1,none⟩=false/\W.frozen? ⟨b,2,none⟩=false/\W.frozen? ⟨b,3,none⟩=false/\W.frozen? ⟨b,4,none⟩=false):=by
 simp[World.cell?,World.frozen?,h]
def GX:Option Nat->Value
 | none=>undef
 | some b=>.pointer (some ⟨b,0,none⟩)
abbrev eL(t:ByteArray)(n m:Nat)(u15:Value)(x0 x1 x2 x3:Bs)(B:Bool)(blk x21 x25 x29 x34:Value):Act:=⟨#[.string t,undef,.pointer (some ⟨n,0,none⟩),.nilIface,.slice (some ⟨n+1,0,none⟩) (m+4) (m+4),blk,undef,undef,undef,undef,undef,.string t,.slice (some ⟨n+1,0,none⟩) (m+4) (m+4),.slice (some ⟨n+1,0,none⟩) (m+4) (m+4),.int .i64 ((m:Int)+4),u15,undef,undef,
 .slice (some ⟨n+1,0,none⟩) (m+4) (m+4),.pointer (some ⟨n+1,0,none⟩),.string (aQ x0),x21,.slice (some ⟨n+1,0,none⟩) (m+4) (m+4),.pointer (some ⟨n+1,1,none⟩),.string (aQ x1),x25,.slice (some ⟨n+1,0,none⟩) (m+4) (m+4),.pointer (some ⟨n+1,2,none⟩),.string (aQ x2),x29,.slice (some ⟨n+1,0,none⟩) (m+4) (m+4),.pointer (some ⟨n+1,3,none⟩),.string (aQ x3),.bool B,x34,undef,undef,undef,undef,undef,undef,undef,undef,undef,undef,undef,undef,undef,undef,undef,undef,undef,undef,undef,undef,undef,undef,undef,undef,undef,undef,undef,undef,undef,undef,undef,undef,undef,undef,undef,undef],[]⟩
def vI(i:Nat):Nat:=bif i == 3 then 16 else 3+4*i
def iN(i:Nat)(b:Bool):Array Bool:=#[true,true,true,Nat.ble 1 i,true,true,true,Nat.ble 2 i,true,true,true,Nat.ble 3 i,true,true,true,true,Nat.ble 4 i,b,false]
theorem ul:∀i b,i<4->(iN i b).setIfInBounds (vI i) true=iN (i+1) b:=by
 have:∀i:Fin 4,∀b,(iN i.val b).setIfInBounds (vI i.val) true=iN (i.val+1) b:=by decide
 exact λi b hi=>this ⟨i,hi⟩ b
theorem vH:∀i,i<=4->(iN i false).setIfInBounds 17 true=iN i true:=by
 have:∀i:Fin 5,(iN i.val false).setIfInBounds 17 true=iN i.val true:=by decide
 exact λi hi=>this ⟨i,by omega⟩
def G6 (x0 x1 x2:Bs)(B:Bool):Value:=.agg #[.int .i64 (aE x0),.slice none 0 0,.int .i64 (aE x1),.int .i64 (aE x2),.bool B]
def AU(t:ByteArray)(n m:Nat)(u15:Value)(x0 x1 x2 x3:Bs)(B:Bool)(i:Nat)(blk:Option Nat):Act :=
 eL t n m u15 x0 x1 x2 x3 B (GX blk) (rm 1 i (.int .i64 (aE x0))) (rm 2 i (.int .i64 (aE x1))) (rm 3 i (.int .i64 (aE x2))) (rm 4 i (G6 x0 x1 x2 B))
def zV (k i:Nat)(v u:Value):Value:=bif Nat.ble k i then v else u
abbrev en(t:ByteArray)(n m b k:Nat)(x y1 y2:Bs)(y3:Bool)(u11 u12 u13 u14 u15 u16 u17 u18 u19 u20 u21 u22 u23 u24 u25 u26 u27 u28 u29 u30 u31 u32 u33 u34 u35:Value)(q49 q51 q53 q54 q55:Value)(u56 u57 u58 u59 u60 u61 u62 u63 u64 u65 u66 u67 u68 u69 u70:Value):Act:=⟨#[.string t,undef,.pointer (some ⟨n,0,none⟩),.nilIface,.slice (some ⟨n+1,0,none⟩) (m+4) (m+4),.pointer (some ⟨b,0,none⟩),undef,.string (aQ x),.string (aQ y1),.string (aQ y2),.bool y3,u11,u12,u13,u14,u15,u16,u17,u18,u19,u20,u21,u22,u23,u24,u25,u26,u27,u28,u29,u30,u31,u32,u33,u34,u35,.slice (some ⟨n+1,4,none⟩) m m,.int .i64 (m:Int),.int .i64 (k:Int),.bool true,.pointer (some ⟨n+1,4+k,none⟩),.string (aQ x),.tuple #[.string (aQ y1),.string (aQ y2),.bool y3],.string (aQ x),.tuple #[.string (aQ y1),.string (aQ y2),.bool y3],.string (aQ y1),.string (aQ y2),.bool y3,.pointer (some ⟨b,1,none⟩),q49,.string (aQ y1),q51,.string (aQ y2),q53,q54,q55,u56,u57,u58,u59,u60,u61,u62,u63,u64,u65,u66,u67,u68,u69,u70],[]⟩
def vw(i:Nat):Nat:=bif i == 0 then 3 else 4+i
def iF(i:Nat)(ld:Bool):Array Bool:=#[true,ld,true,Nat.ble 1 i,true,Nat.ble 2 i,Nat.ble 3 i,Nat.ble 4 i,false,false,false]
theorem tW:∀i b,i<4->(iF i b).setIfInBounds (vw i) true=iF (i+1) b:=by
 have:∀i:Fin 4,∀b,(iF i.val b).setIfInBounds (vw i.val) true=iF (i.val+1) b:=by decide
 exact λi b hi=>this ⟨i,hi⟩ b
theorem tV:∀i,i<=4->(iF i false).setIfInBounds 1 true=iF i true:=by
 have:∀i:Fin 5,(iF i.val false).setIfInBounds 1 true=iF i.val true:=by decide
 exact λi hi=>this ⟨i,by omega⟩
theorem mD(x:Bs):decide (x=eS true)=((aQ x).toList == [115,116,97,121,115]):=by rw[ByteArray.toList_eq,dz];exact(Bool.eq_iff_iff.2 (by simp[eS])).symm
def zT(t:ByteArray)(w:World)(e:Ending)(w':World):Prop :=
 ((∃s a cap,Good s/\aQ (aP s)=t/\e=.returned (.tuple #[dh s a cap,.nilIface])/\bj w' s a/\∀q o,a=some ⟨q,o,none⟩->w.heap.size<=q) \/
  ((∀s,Good s->aQ (aP s)≠t)/\e=.returned (.tuple #[dh ⟨0,[],0,0,false⟩ none 0,bg 3])))/\Below w.heap.size w w'
set_option linter.unusedSimpArgs false in
theorem parse_any(t:ByteArray)(w:World)(tt:Tabs w)(ht:t.size<=200) : Calls Tryz.prog 142 #[.string t] w λe w'=>zT t w e w':=by
 obtain⟨W,hW⟩:=Nn (kh t.data.toList);have TT:=Hx tt;have HW:=Hx hW;clear tt;go_enter Tryz.func142,Tryz.ntmps142
 go_upto_region 1 with fail;go_wp2_with fail;refine(yn t _ (TT.out.on (ay w _)) (by omega)).mono ?_;rintro e wx ⟨rfl,rfl⟩;rw[<-hW]
 have hsz:(w.alloc (.cells #[.int .i64 0,.slice none 0 0,.int .i64 0,.int .i64 0,.bool false] 34)).heap.size=w.heap.size+1:=by simp
 rw[hsz];obtain⟨w1,pX⟩:=Nn ((w.alloc (.cells #[.int .i64 0,.slice none 0 0,.int .i64 0,.int .i64 0,.bool false] 34)).alloc (.cells (W.map λx=>Value.string (aQ x)).toArray 9));have B1:=Hs (Below w.heap.size w w1) (pX▸(ay w _).trans ((ay _ _).mono (by simp)));have L1:=Hs (w1.heap.size=w.heap.size+2) (by rw[pX]; simp);have R1:=Hs (w1.heap[w.heap.size]?=some (.cells #[.int .i64 0,.slice none 0 0,.int .i64 0,.int .i64 0,.bool false] 34 (0,0))) (pX▸heap_alloc2_old w _ _);have D1:=Hs (w1.heap[w.heap.size+1]?=some (.cells (W.map λx=>Value.string (aQ x)).toArray 9 (0,0))) (pX▸heap_alloc2_new w _ _);rw[<-pX];clear hW hsz pX;by_cases hn:(W.length:Int)<4
 .obtain⟨⟨e0,e1,e2,e3,e4⟩,f0,f1,f2,f3,f4⟩:=cells5 R1.out;go_wp2;refine bodyPost_ret (v:=.tuple #[dh ⟨0,[],0,0,false⟩ none 0,bg 3]) (iG Tryz.results142 _ _ w.heap.size 34 #[.int .i64 0,.slice none 0 0,.int .i64 0,.int .i64 0,.bool false] _ (bg 3) rfl rfl (dF R1.out _ _ _ _ _) br.1 rfl br.2) rfl ?_;refine⟨.inr ⟨λs hg e=>?_,rfl⟩,bW B1.out (Nat.le_refl _) _ _ _ _ _⟩;have:=xZ (s:=s) (t:=t.data.toList) (by rw[<-e,dz]);have h2:=HW.out;unfold kh at h2;rw[<-h2]at this;omega
 .obtain⟨x0,x1,x2,x3,rest,hx⟩:∃x0 x1 x2 x3 rest,W=x0 :: x1 :: x2 :: x3 :: rest:=by
   match W,hn with
   | [],hn=>simp at hn
   | [_],hn=>simp at hn
   | [_,_],hn=>simp at hn
   | [_,_,_],hn=>simp at hn
   | a :: b :: c :: d :: l,_=>exact⟨a,b,c,d,l,rfl⟩
  obtain⟨m,hm⟩:=Nn rest.length
  have hlen:W.length=m+4:=by rw[hx,hm]; simp
  have Jg:∀x∈W,x.length<=200:=λx h=>by rw[HW.out]at h;have:=lh 32 _ _ x h;have:t.data.toList.length=t.size:=rfl;omega
  have SH:=Hs (x0.length<=200/\x1.length<=200/\x2.length<=200/\x3.length<=200/\∀x∈rest,x.length<=200) (by
   rw[hx]at Jg
   exact⟨Jg _ (by simp),Jg _ (by simp),Jg _ (by simp),Jg _ (by simp),λx h=>Jg x (by simp[h])⟩)
  have HX:=Hx hx;have HM:=Hx hm
  have hm200:m<=1000:=by have:=nU t;rw[<-HW.out,hlen,show Lib.countB t ⟨#[32]⟩=count t.data.toList [32] from rfl,count_one]at this;have h2:List.count 32 t.data.toList<=t.data.toList.length:=List.count_le_length;have h3:t.data.toList.length=t.size:=rfl;omega
  obtain⟨S,hS⟩:∃S:World->Prop,S=λw'=>Below w1.heap.size w1 w':=⟨_,rfl⟩
  replace hS:=Hx hS
  have SC:=Hs (∀w',S w'->w'.cell? ⟨w.heap.size+1,0,none⟩=some (.string (aQ x0))/\w'.cell? ⟨w.heap.size+1,1,none⟩=some (.string (aQ x1))/\w'.cell? ⟨w.heap.size+1,2,none⟩=some (.string (aQ x2))/\w'.cell? ⟨w.heap.size+1,3,none⟩=some (.string (aQ x3))) (λw' h=>by
   rw[hS.out]at h;have e:=(h.block (w.heap.size+1) (by have:=L1.out; omega)).trans D1.out;rw[hx]at e
   simp[World.cell?,e])
  obtain⟨B,hB⟩:=Nm ((aQ x3).toList == [115,116,97,121,115]);have HB:=Hx hB
  have i0:¬ ((m:Int)+4<=0):=by omega
  have i1:¬ ((m:Int)+4<=1):=by omega
  have i2:¬ ((m:Int)+4<=2):=by omega
  have i3:¬ ((m:Int)+4<=3):=by omega
  have htest:decide (((m+4:Nat):Int)<4)=false:=by simp; omega
  rw[hlen];clear hn hlen Jg hx hm hB;go_upto_region 4 with fail;obtain⟨u15,hu15⟩:=Nn (Value.bool (decide ((m:Int)+4<4)));have HU:=Hx hu15;clear hu15;go_cut [5] (λv wx=>∃b,v=.pointer (some ⟨b,0,none⟩)/\w1.heap.size<=b/\wx.heap[b]?=some (.cells #[.int .i64 (aE x0),.slice none 0 0,.int .i64 (aE x1),.int .i64 (aE x2),.bool B] 34 (0,0))/\Below w1.heap.size w1 wx)
  case first =>
   refine wp_region_held_drew (S:=S) (by kernel_rfl) (by rw[hS.out]; exact(Below.refl _ _).drew) (λdT=>?_);refine wt 0 _ dT ?_;go_simp;refine wt 1 _ dT ?_;go_simp;refine wt 2 (.string (aQ x0)) dT ?_ (hy:=Or.inl ⟨by rfl,λw' sT=>by have hc:=(SC.out w' sT).1; go_simp⟩);go_simp;refine wt 4 _ dT ?_;go_simp;refine wt 5 _ dT ?_;go_simp;refine wt 6 (.string (aQ x1)) dT ?_ (hy:=Or.inl ⟨by rfl,λw' sT=>by have hc:=(SC.out w' sT).2.1; go_simp⟩);go_simp;refine wt 8 _ dT ?_;go_simp;refine wt 9 _ dT ?_;go_simp;refine wt 10 (.string (aQ x2)) dT ?_ (hy:=Or.inl ⟨by rfl,λw' sT=>by have hc:=(SC.out w' sT).2.2.1; go_simp⟩);go_simp;refine wt 12 _ dT ?_;go_simp;refine wt 13 _ dT ?_;go_simp;refine wt 14 (.string (aQ x3)) dT ?_ (hy:=Or.inl ⟨by rfl,λw' sT=>by have hc:=(SC.out w' sT).2.2.2; go_simp⟩);go_simp;refine wt 15 (.bool B) dT ?_ (hy:=Or.inl ⟨by rfl,λw' sT=>by have hb:=HB.out; go_simp⟩);go_simp;obtain⟨w2,IQ⟩:=Nn w1.drew;rw[<-IQ]at dT ⊢;refine CU (S:=S) 4 vI 17 iN (λi a wx=>a=AU t w.heap.size m u15 x0 x1 x2 x3 B i none/\S wx) (λi a wx=>∃blk,a=AU t w.heap.size m u15 x0 x1 x2 x3 B i (some blk)/\S wx/\w1.heap.size<=blk/\wx.heap[blk]?=some (.cells #[.int .i64 0,.slice none 0 0,.int .i64 0,.int .i64 0,.bool false] 34 (0,0))) (by kernel_rfl) ul vH (λ_ _ _ h=>h.2) (λ_ _ _ ⟨_,_,h,_⟩=>h) ?hm ?hc ?hc' 1 ?hfin _ _ ⟨by rw[HU.out]; rfl,dT⟩
   case hm =>
    intro i a wx K hi h hK;obtain⟨rfl,sT⟩:=h;show wpOp _ _ _ 17 K (eL t w.heap.size m u15 x0 x1 x2 x3 B undef (rm 1 i _) (rm 2 i _) (rm 3 i _) (rm 4 i _)) wx;refine wpOp_step (i:=17) (o:=_) rfl (λK' Is=>?_);go_simp;exact Is _ _ (hK _ _ ⟨wx.heap.size,rfl,by rw[hS.out]at sT ⊢; exact sT.alloc sT.size _,by rw[hS.out]at sT; exact sT.size,heap_alloc_new wx _⟩)
   case hc =>
    intro i a wx K hi h hK;obtain⟨rfl,sT⟩:=h
    have T2:Tabs wx:=by rw[hS.out]at sT; exact(TT.out.on B1.out).on sT
    have HS:∀w',Below wx.heap.size wx w'->S w':=λw' h=>by rw[hS.out]at sT ⊢; exact sT.trans (h.mono sT.size)
    rcases (by omega:i=0\/i=1\/i=2\/i=3) with rfl | rfl | rfl | rfl
    .show wpOp _ _ _ 3 K (eL t w.heap.size m u15 x0 x1 x2 x3 B undef undef undef undef undef) wx;refine wpOp_step (i:=3) (o:=_) rfl (λK' Is=>?_);go_simp;refine(cB x0 _ T2 SH.out.1).mono ?_;rintro e w3 ⟨rfl,b3⟩;exact Is _ _ (hK _ _ ⟨rfl,HS _ b3⟩)
    .show wpOp _ _ _ 7 K (eL t w.heap.size m u15 x0 x1 x2 x3 B undef (.int .i64 (aE x0)) undef undef undef) wx;refine wpOp_step (i:=7) (o:=_) rfl (λK' Is=>?_);go_simp;refine(cB x1 _ T2 SH.out.2.1).mono ?_;rintro e w3 ⟨rfl,b3⟩;exact Is _ _ (hK _ _ ⟨rfl,HS _ b3⟩)
    .show wpOp _ _ _ 11 K (eL t w.heap.size m u15 x0 x1 x2 x3 B undef (.int .i64 (aE x0)) (.int .i64 (aE x1)) undef undef) wx;refine wpOp_step (i:=11) (o:=_) rfl (λK' Is=>?_);go_simp;refine(cB x2 _ T2 SH.out.2.2.1).mono ?_;rintro e w3 ⟨rfl,b3⟩;exact Is _ _ (hK _ _ ⟨rfl,HS _ b3⟩)
    .show wpOp _ _ _ 16 K (eL t w.heap.size m u15 x0 x1 x2 x3 B undef (.int .i64 (aE x0)) (.int .i64 (aE x1)) (.int .i64 (aE x2)) undef) wx;refine wpOp_step (i:=16) (o:=_) rfl (λK' Is=>?_);go_simp;exact Is _ _ (hK _ _ ⟨rfl,sT⟩)
   case hc' =>
    intro i a wx K hi h hK;obtain⟨blk,rfl,sT,hb,hh⟩:=h
    have T2:Tabs wx:=by rw[hS.out]at sT; exact(TT.out.on B1.out).on sT
    have HS:∀w',Below wx.heap.size wx w'->S w':=λw' h=>by rw[hS.out]at sT ⊢; exact sT.trans (h.mono sT.size)
    rcases (by omega:i=0\/i=1\/i=2\/i=3) with rfl | rfl | rfl | rfl
    .show wpOp _ _ _ 3 K (eL t w.heap.size m u15 x0 x1 x2 x3 B (.pointer (some ⟨blk,0,none⟩)) undef undef undef undef) wx;refine wpOp_step (i:=3) (o:=_) rfl (λK' Is=>?_);go_simp;refine(cB x0 _ T2 SH.out.1).mono ?_;rintro e w3 ⟨rfl,b3⟩;exact Is _ _ (hK _ _ ⟨blk,rfl,HS _ b3,hb,(b3.block _ (Gl hh)).trans hh⟩)
    .show wpOp _ _ _ 7 K (eL t w.heap.size m u15 x0 x1 x2 x3 B (.pointer (some ⟨blk,0,none⟩)) (.int .i64 (aE x0)) undef undef undef) wx;refine wpOp_step (i:=7) (o:=_) rfl (λK' Is=>?_);go_simp;refine(cB x1 _ T2 SH.out.2.1).mono ?_;rintro e w3 ⟨rfl,b3⟩;exact Is _ _ (hK _ _ ⟨blk,rfl,HS _ b3,hb,(b3.block _ (Gl hh)).trans hh⟩)
    .show wpOp _ _ _ 11 K (eL t w.heap.size m u15 x0 x1 x2 x3 B (.pointer (some ⟨blk,0,none⟩)) (.int .i64 (aE x0)) (.int .i64 (aE x1)) undef undef) wx;refine wpOp_step (i:=11) (o:=_) rfl (λK' Is=>?_);go_simp;refine(cB x2 _ T2 SH.out.2.2.1).mono ?_;rintro e w3 ⟨rfl,b3⟩;exact Is _ _ (hK _ _ ⟨blk,rfl,HS _ b3,hb,(b3.block _ (Gl hh)).trans hh⟩)
    .show wpOp _ _ _ 16 K (eL t w.heap.size m u15 x0 x1 x2 x3 B (.pointer (some ⟨blk,0,none⟩)) (.int .i64 (aE x0)) (.int .i64 (aE x1)) (.int .i64 (aE x2)) undef) wx;refine wpOp_step (i:=16) (o:=_) rfl (λK' Is=>?_);go_simp;exact Is _ _ (hK _ _ ⟨blk,rfl,sT,hb,hh⟩)
   case hfin =>
    intro a wx h;obtain⟨blk,rfl,sT,hb,hh⟩:=h;obtain⟨⟨e0,e1,e2,e3,e4⟩,f0,f1,f2,f3,f4⟩:=cells5 hh;show wpAnyH _ _ _ _ S 1 _ (eL t w.heap.size m u15 x0 x1 x2 x3 B (.pointer (some ⟨blk,0,none⟩)) (.int .i64 (aE x0)) (.int .i64 (aE x1)) (.int .i64 (aE x2)) (.agg #[.int .i64 (aE x0),.slice none 0 0,.int .i64 (aE x1),.int .i64 (aE x2),.bool B])) wx;refine wpAnyH_ready (rs:=[18]) (by kernel_rfl) (by simp) ?_;refine AllReadyH.cons (o:=_) rfl (λK hK=>?_) AllReadyH.nil;go_simp
    have hB4:Below w1.heap.size w1 (five wx blk (.int .i64 (aE x0)) (.slice none 0 0) (.int .i64 (aE x1)) (.int .i64 (aE x2)) (.bool B)):=by rw[hS.out]at sT; exact bW sT hb _ _ _ _ _
    refine hK.out _ _ (by rw[hS.out]; exact hB4) (λhH=>?_);refine wpAnyH_done (by kernel_rfl) ?_ _;clear hK K;show Exit.then _ _ Exit.normal _ (five wx blk (.int .i64 (aE x0)) (.slice none 0 0) (.int .i64 (aE x1)) (.int .i64 (aE x2)) (.bool B));go_wp2;go_meet;exact⟨blk,rfl,hb,dF hh _ _ _ _ _,hB4⟩
  case rest =>
   obtain⟨b,rfl,hb,hh,Ir⟩:=hcut
   obtain⟨w2,rfl⟩:∃w2:World,w2=wc:=⟨_,rfl⟩
   have B2:=Hx Ir;have HH:=Hx hh
   have RC:=Hs (∀k (h:k<m) w',Below w1.heap.size w1 w'->w'.cell? ⟨w.heap.size+1,4+k,none⟩=some (.string (aQ (rest[k]'(by have:=HM.out; omega))))) (λk h w' MJ=>by
    have e:=(MJ.block (w.heap.size+1) (by have:=L1.out; omega)).trans D1.out;rw[HX.out]at e;have e2:=HM.out;simp only[World.cell?,e,List.map_cons];rw[Nat.add_comm 4 k]
    simp[List.getElem?_eq_getElem (show k<rest.length by omega)])
   clear hS SC Ir hh htest S HU;go_upto_region 5 with fail;go_cut [36,37,38] (λv u i wx=>(∃oo,v=.slice (some ⟨w.heap.size+1,oo,none⟩) m m/\(m≠0->oo=4))/\u=.int .i64 m/\i=.int .i64 0/\wx=w2)
   case first =>
    have h0:m=0\/0<m:=by omega
    rcases h0 with rfl | h0
    .go_wp2;go_meet;exact⟨⟨_,rfl,λh=>absurd rfl h⟩,rfl,rfl,rfl⟩
    .have h0':¬ m=0:=by omega
     go_wp2;go_meet;exact⟨⟨_,rfl,λ_=>rfl⟩,rfl,rfl,rfl⟩
   case rest =>
    obtain⟨⟨oo,rfl,hoo⟩,rfl,rfl,e0⟩:=hcut;obtain rfl:=e0.symm;have OO:=Hx hoo;clear hoo i0 i1 i2 i3;have ROW:=Hs (bX w1.heap.size w2 (.slice none 0 0) ((rest.take 0).map ml)) (⟨rfl,.inl ⟨rfl,rfl⟩⟩);go_wp2;go_loopw [7,8,9,10,38] (λ_ _ _ _ i wr=>∃k:Nat,k<=m/\i=.int .i64 k/\∃v,wr.heap[b]?=some (.cells #[.int .i64 (aE x0),v,.int .i64 (aE x1),.int .i64 (aE x2),.bool B] 34 (0,0))/\bX w1.heap.size wr v ((rest.take k).map ml)/\v.ownBlock≠some b/\Below w1.heap.size w1 wr) (λ_ _ _ _ i _=>m - (RowKit.intOf i).toNat)
    case atStart=>exact⟨0,by omega,rfl,_,HH.out,ROW.out,by simp[Value.ownBlock],B2.out⟩
    case round =>
     obtain⟨k,hk,rfl,v,hv,ec,hnb,Ir⟩:=hrel;have HV:=Hx hv;have OWN:=Hx ec;have NB:=Hx hnb;have BW:=Hx Ir;have LE:=L1.out;clear hv ec hnb Ir HH B2 ROW;by_cases lB:k<m
     .have c1:=RC.out k lB _ BW.out
      have hlr:k<rest.length:=by have:=HM.out; omega
      obtain⟨x,hx⟩:=Nn (rest[k]);rw[<-hx]at c1;obtain rfl:oo=4:=OO.out (by omega);have HXK:=Hx hx;have SX:=Hs (x.length<=200) (hx▸SH.out.2.2.2.2 _ (List.getElem_mem _));clear hx;go_wp2_with fail;refine(CS x _ ((TT.out.on B1.out).on BW.out) SX.out).mono ?_;rintro e w5 ⟨rfl,b5⟩;obtain⟨y1,hy1⟩:=Nn ((Lib.cut x [58]).1);obtain⟨y2,hy2⟩:=Nn ((Lib.cut x [58]).2.1);obtain⟨y3,hy3⟩:=Nn ((Lib.cut x [58]).2.2);rw[<-hy1,<-hy2,<-hy3]
      have Y:=Hs (ml x=(aE y1,aE y2)/\y1.length<=200/\y2.length<=200) (by
       have:=zF x [58];have:=SX.out;rw[hy1,hy2]
       exact⟨rfl,by omega,by omega⟩)
      have B5:=Hx (BW.out.trans (b5.mono BW.out.size));have V5:=Hx ((b5.block b (Gl HV.out)).trans HV.out);have O5:=Hs (bX w1.heap.size w5 v ((rest.take k).map ml)) (bX.below OWN.out b5);clear hy1 hy2 hy3 HV OWN BW b5 c1;go_upto_region 9 with fail;refine wp_region_held_drew (S:=λ_=>True) (by kernel_rfl) trivial (λdT=>?_);refine wt 0 _ dT ?_;go_simp;refine wt 2 _ dT ?_;go_simp;refine wt 4 _ dT ?_;go_simp;refine CU (S:=λ_=>True) 4 vw 1 iF (λi a wx=>∃sb,a=(en t w.heap.size m b k x y1 y2 y3 u11 u12 u13 u14 u15 u16 u17 u18 u19 u20 u21 u22 u23 u24 u25 u26 u27 u28 u29 u30 u31 u32 u33 u34 u35 u49 (zV 1 i (.int .i64 (aE y1)) u51) (zV 2 i (.int .i64 (aE y2)) u53) (zV 3 i (.agg #[.int .i64 (aE y1),.int .i64 (aE y2)]) u54) (zV 4 i (.slice (some ⟨sb,0,none⟩) 1 1) u55) u56 u57 u58 u59 u60 u61 u62 u63 u64 u65 u66 u67 u68 u69 u70)/\Below w5.heap.size w5 wx/\(i=4->w5.heap.size<=sb/\wx.heap[sb]?=some (.cells #[.int .i64 (aE y1),.int .i64 (aE y2)] 144 (0,0)))) (λi a wx=>∃sb,a=(en t w.heap.size m b k x y1 y2 y3 u11 u12 u13 u14 u15 u16 u17 u18 u19 u20 u21 u22 u23 u24 u25 u26 u27 u28 u29 u30 u31 u32 u33 u34 u35 v (zV 1 i (.int .i64 (aE y1)) u51) (zV 2 i (.int .i64 (aE y2)) u53) (zV 3 i (.agg #[.int .i64 (aE y1),.int .i64 (aE y2)]) u54) (zV 4 i (.slice (some ⟨sb,0,none⟩) 1 1) u55) u56 u57 u58 u59 u60 u61 u62 u63 u64 u65 u66 u67 u68 u69 u70)/\Below w5.heap.size w5 wx/\(i=4->w5.heap.size<=sb/\wx.heap[sb]?=some (.cells #[.int .i64 (aE y1),.int .i64 (aE y2)] 144 (0,0)))) (by kernel_rfl) tW tV (λ_ _ _ _=>trivial) (λ_ _ _ _=>trivial) ?hm ?hc ?hc' 3 ?hfin _ _ ⟨0,rfl,(Below.refl _ _).drew,λh=>by cases h⟩
      case hm =>
       intro i a wx K hi h hK;obtain⟨sb,rfl,Jq,NC⟩:=h;have e1:=(Jq.block b (Gl V5.out)).trans V5.out
       have e2:wx.cell? ⟨b,1,none⟩=some v:=by simp[World.cell?,e1]
       show wpOp _ _ _ 1 K (en t w.heap.size m b k x y1 y2 y3 u11 u12 u13 u14 u15 u16 u17 u18 u19 u20 u21 u22 u23 u24 u25 u26 u27 u28 u29 u30 u31 u32 u33 u34 u35 u49 (zV 1 i _ _) (zV 2 i _ _) (zV 3 i _ _) (zV 4 i _ _) u56 u57 u58 u59 u60 u61 u62 u63 u64 u65 u66 u67 u68 u69 u70) wx;refine wpOp_step (i:=1) (o:=_) rfl (λK' Is=>?_);have HSB:=Hx NC;clear NC e1;go_simp;exact Is _ _ (hK _ _ ⟨sb,rfl,Jq,HSB.out⟩)
      case hc =>
       intro i a wx K hi h hK;obtain⟨sb,rfl,Jq,NC⟩:=h;have T2:Tabs wx:=((TT.out.on B1.out).on B5.out).on Jq;have JE:=Hx Jq;clear NC
       rcases (by omega:i=0\/i=1\/i=2\/i=3) with rfl | rfl | rfl | rfl
       .show wpOp _ _ _ 3 K (en t w.heap.size m b k x y1 y2 y3 u11 u12 u13 u14 u15 u16 u17 u18 u19 u20 u21 u22 u23 u24 u25 u26 u27 u28 u29 u30 u31 u32 u33 u34 u35 u49 u51 u53 u54 u55 u56 u57 u58 u59 u60 u61 u62 u63 u64 u65 u66 u67 u68 u69 u70) wx;refine wpOp_step (i:=3) (o:=_) rfl (λK' Is=>?_);go_simp;refine(cB y1 _ T2 Y.out.2.1).mono ?_;rintro e w6 ⟨rfl,b6⟩;exact Is _ _ (hK _ _ ⟨sb,rfl,JE.out.trans (b6.mono JE.out.size),λh=>by cases h⟩)
       .show wpOp _ _ _ 5 K (en t w.heap.size m b k x y1 y2 y3 u11 u12 u13 u14 u15 u16 u17 u18 u19 u20 u21 u22 u23 u24 u25 u26 u27 u28 u29 u30 u31 u32 u33 u34 u35 u49 (.int .i64 (aE y1)) u53 u54 u55 u56 u57 u58 u59 u60 u61 u62 u63 u64 u65 u66 u67 u68 u69 u70) wx;refine wpOp_step (i:=5) (o:=_) rfl (λK' Is=>?_);go_simp;refine(cB y2 _ T2 Y.out.2.2).mono ?_;rintro e w6 ⟨rfl,b6⟩;exact Is _ _ (hK _ _ ⟨sb,rfl,JE.out.trans (b6.mono JE.out.size),λh=>by cases h⟩)
       .show wpOp _ _ _ 6 K (en t w.heap.size m b k x y1 y2 y3 u11 u12 u13 u14 u15 u16 u17 u18 u19 u20 u21 u22 u23 u24 u25 u26 u27 u28 u29 u30 u31 u32 u33 u34 u35 u49 (.int .i64 (aE y1)) (.int .i64 (aE y2)) u54 u55 u56 u57 u58 u59 u60 u61 u62 u63 u64 u65 u66 u67 u68 u69 u70) wx;refine wpOp_step (i:=6) (o:=_) rfl (λK' Is=>?_);go_simp;exact Is _ _ (hK _ _ ⟨sb,rfl,JE.out,λh=>by cases h⟩)
       .show wpOp _ _ _ 7 K (en t w.heap.size m b k x y1 y2 y3 u11 u12 u13 u14 u15 u16 u17 u18 u19 u20 u21 u22 u23 u24 u25 u26 u27 u28 u29 u30 u31 u32 u33 u34 u35 u49 (.int .i64 (aE y1)) (.int .i64 (aE y2)) (.agg #[.int .i64 (aE y1),.int .i64 (aE y2)]) u55 u56 u57 u58 u59 u60 u61 u62 u63 u64 u65 u66 u67 u68 u69 u70) wx;refine wpOp_step (i:=7) (o:=_) rfl (λK' Is=>?_);go_simp;exact Is _ _ (hK _ _ ⟨wx.heap.size,rfl,JE.out.alloc JE.out.size _,λ_=>⟨JE.out.size,heap_alloc_new wx _⟩⟩)
      case hc' =>
       intro i a wx K hi h hK;obtain⟨sb,rfl,Jq,NC⟩:=h;have T2:Tabs wx:=((TT.out.on B1.out).on B5.out).on Jq;have JE:=Hx Jq;clear NC
       rcases (by omega:i=0\/i=1\/i=2\/i=3) with rfl | rfl | rfl | rfl
       .show wpOp _ _ _ 3 K (en t w.heap.size m b k x y1 y2 y3 u11 u12 u13 u14 u15 u16 u17 u18 u19 u20 u21 u22 u23 u24 u25 u26 u27 u28 u29 u30 u31 u32 u33 u34 u35 v u51 u53 u54 u55 u56 u57 u58 u59 u60 u61 u62 u63 u64 u65 u66 u67 u68 u69 u70) wx;refine wpOp_step (i:=3) (o:=_) rfl (λK' Is=>?_);go_simp;refine(cB y1 _ T2 Y.out.2.1).mono ?_;rintro e w6 ⟨rfl,b6⟩;exact Is _ _ (hK _ _ ⟨sb,rfl,JE.out.trans (b6.mono JE.out.size),λh=>by cases h⟩)
       .show wpOp _ _ _ 5 K (en t w.heap.size m b k x y1 y2 y3 u11 u12 u13 u14 u15 u16 u17 u18 u19 u20 u21 u22 u23 u24 u25 u26 u27 u28 u29 u30 u31 u32 u33 u34 u35 v (.int .i64 (aE y1)) u53 u54 u55 u56 u57 u58 u59 u60 u61 u62 u63 u64 u65 u66 u67 u68 u69 u70) wx;refine wpOp_step (i:=5) (o:=_) rfl (λK' Is=>?_);go_simp;refine(cB y2 _ T2 Y.out.2.2).mono ?_;rintro e w6 ⟨rfl,b6⟩;exact Is _ _ (hK _ _ ⟨sb,rfl,JE.out.trans (b6.mono JE.out.size),λh=>by cases h⟩)
       .show wpOp _ _ _ 6 K (en t w.heap.size m b k x y1 y2 y3 u11 u12 u13 u14 u15 u16 u17 u18 u19 u20 u21 u22 u23 u24 u25 u26 u27 u28 u29 u30 u31 u32 u33 u34 u35 v (.int .i64 (aE y1)) (.int .i64 (aE y2)) u54 u55 u56 u57 u58 u59 u60 u61 u62 u63 u64 u65 u66 u67 u68 u69 u70) wx;refine wpOp_step (i:=6) (o:=_) rfl (λK' Is=>?_);go_simp;exact Is _ _ (hK _ _ ⟨sb,rfl,JE.out,λh=>by cases h⟩)
       .show wpOp _ _ _ 7 K (en t w.heap.size m b k x y1 y2 y3 u11 u12 u13 u14 u15 u16 u17 u18 u19 u20 u21 u22 u23 u24 u25 u26 u27 u28 u29 u30 u31 u32 u33 u34 u35 v (.int .i64 (aE y1)) (.int .i64 (aE y2)) (.agg #[.int .i64 (aE y1),.int .i64 (aE y2)]) u55 u56 u57 u58 u59 u60 u61 u62 u63 u64 u65 u66 u67 u68 u69 u70) wx;refine wpOp_step (i:=7) (o:=_) rfl (λK' Is=>?_);go_simp;exact Is _ _ (hK _ _ ⟨wx.heap.size,rfl,JE.out.alloc JE.out.size _,λ_=>⟨JE.out.size,heap_alloc_new wx _⟩⟩)
      case hfin =>
       intro a wx h;obtain⟨sb,rfl,Jq,NC⟩:=h;obtain⟨Ls,Nh⟩:=NC rfl;have BX:=Hx Jq;have HS1:=Hx Ls;have Nx:=Hx Nh;have OX:=Hs (bX w1.heap.size wx v ((rest.take k).map ml)) (bX.below O5.out Jq);clear Jq Ls Nh NC;obtain⟨i0,Ni,Ij,Ii,Im⟩:=info_parts Tryz.infoReg;show wpAnyH _ _ _ _ _ 3 _ (en t w.heap.size m b k x y1 y2 y3 u11 u12 u13 u14 u15 u16 u17 u18 u19 u20 u21 u22 u23 u24 u25 u26 u27 u28 u29 u30 u31 u32 u33 u34 u35 v (.int .i64 (aE y1)) (.int .i64 (aE y2)) (.agg #[.int .i64 (aE y1),.int .i64 (aE y2)]) (.slice (some ⟨sb,0,none⟩) 1 1) u56 u57 u58 u59 u60 u61 u62 u63 u64 u65 u66 u67 u68 u69 u70) wx;refine wpAnyH_ready (rs:=[8]) (by kernel_rfl) (by simp) ?_;refine AllReadyH.cons (o:=_) rfl (λK hK=>?_) AllReadyH.nil;refine step_append_lies _ (by rfl) _ _ _ (by rfl) w1.heap.size 144 i0 _ 2 16 Tryz.underlying32 Ni Ij Ii Im rfl (by omega) v _ _ (by rfl) OX.out ⟨sb,0,none⟩ 1 1 (ah [(aE y1,aE y2)]) (by rfl) (by rfl) (World.news_of_block Nx.out) (bC _) (by omega) ?len1 ?Fz (by have:=BX.out.size; have:=B5.out.size; omega) _ rfl ?_
       case len1=>rw[List.length_map,List.length_take]; unfold maxLen; omega
       case Fz=>rw[List.length_map,List.length_take]; omega
       intro g9 cap9 w9 own9 grow9 at9 lt9;obtain⟨n9,hn9⟩:=Nn (((rest.take k).map ml).length+1);have LO:=Hs (∀q,v.ownBlock=some q->w1.heap.size<=q) (λq hq=>(World.ownsRow.lt OX.out q hq).1)
       have bx:b<w5.heap.size:=(Gl V5.out)
       have B9:=Hs (Below w1.heap.size w1 w9) ((B5.out.trans (BX.out.mono B5.out.size)).grown grow9 (by have:=BX.out.size; have:=B5.out.size; omega) LO.out);have E9:=Hs (w9.heap[b]?=some (.cells #[.int .i64 (aE x0),v,.int .i64 (aE x1),.int .i64 (aE x2),.bool B] 34 (0,0))) ((grow9.block b (by have:=BX.out.size; omega) (λe=>NB.out e.symm)).trans ((BX.out.block b bx).trans V5.out))
       have OW9:=Hs (bX w1.heap.size w9 (.slice (some ⟨g9,0,none⟩) n9 cap9) ((rest.take (k+1)).map ml)) (by
        have h:=gp own9;rw[<-hn9]at h;rw[List.take_succ_eq_append_getElem hlr,List.map_append,List.map_singleton,<-HXK.out,Y.out.1]
        exact h)
       have NB9:=Hs ((Value.slice (some ⟨g9,0,none⟩) n9 cap9).ownBlock≠some b) (by
        intro e
        have e:g9=b:=by simpa[Value.ownBlock] using e
        rcases at9 with h | h
        .exact NB.out (h.trans (by rw[e]))
        .have:=BX.out.size; omega)
       rw[<-hn9];refine hK.out _ _ trivial (λhH9=>?_);clear hK K hH9 own9 grow9 at9 lt9 hn9;have hE9:=E9.out;obtain⟨⟨e0,e1,e2,e3,e4⟩,f0,f1,f2,f3,f4⟩:=cells5 hE9;refine wpAnyH_ready (rs:=[9]) (by kernel_rfl) (by simp) ?_;refine AllReadyH.cons (o:=_) rfl (λK hK=>?_) AllReadyH.nil;go_simp;refine hK.out _ _ trivial (λhH9=>?_);clear hK K hH9;refine wpAnyH_ready (rs:=[10]) (by kernel_rfl) (by simp) ?_;refine AllReadyH.cons (o:=_) rfl (λK hK=>?_) AllReadyH.nil;go_simp;refine hK.out _ _ trivial (λhH9=>?_);clear hK K hH9 e0 e1 e2 e3 e4 f0 f1 f2 f3 f4 hE9;refine wpAnyH_done (by kernel_rfl) ?_ _;have R10:=Hs ((w9.setCell ⟨b,1,none⟩ (.slice (some ⟨g9,0,none⟩) n9 cap9)).heap[b]?=some (.cells #[.int .i64 (aE x0),(.slice (some ⟨g9,0,none⟩) n9 cap9),.int .i64 (aE x1),.int .i64 (aE x2),.bool B] 34 (0,0))/\bX w1.heap.size (w9.setCell ⟨b,1,none⟩ (.slice (some ⟨g9,0,none⟩) n9 cap9)) (.slice (some ⟨g9,0,none⟩) n9 cap9) ((rest.take (k+1)).map ml)/\(Value.slice (some ⟨g9,0,none⟩) n9 cap9).ownBlock≠some b/\Below w1.heap.size w1 (w9.setCell ⟨b,1,none⟩ (.slice (some ⟨g9,0,none⟩) n9 cap9))) (        ⟨one_setCell E9.out (.slice (some ⟨g9,0,none⟩) n9 cap9),ownsRow_setCell_other OW9.out NB9.out _,NB9.out,B9.out.setCell (p:=⟨b,1,none⟩) hb (.slice (some ⟨g9,0,none⟩) n9 cap9)⟩);obtain⟨w10,I6⟩:=Nn (w9.setCell ⟨b,1,none⟩ (.slice (some ⟨g9,0,none⟩) n9 cap9));rw[<-I6]at R10 ⊢;clear I6 B9 E9 OW9 NB9;go_wp2;go_roundw
       case rel=>exact⟨k+1,by omega,by go_num,_,R10.out.1,R10.out.2.1,R10.out.2.2.1,R10.out.2.2.2⟩
       case measure=>simp[RowKit.intOf]; omega
     .obtain rfl:k=m:=by omega
      have hL:(rest.take k).map ml=rest.map ml:=by rw[List.take_of_length_le (by have:=HM.out; omega)]
      obtain⟨RL,hRL⟩:=Nn (rest.map ml);rw[hL,<-hRL]at OWN;obtain⟨a,cap,rfl,MR,IF⟩:=bX.shape OWN.out
      have hlen:RL.length=k:=by rw[hRL,List.length_map]; exact HM.out.symm
      obtain⟨e0,e1,e2,e3,e4⟩:=(cells5 HV.out).1
      have S0:=Hs (∀s,Good s->aQ (aP s)=t->s=⟨aE x0,RL,aE x1,aE x2,B⟩) (λs hg e=>by
       have h1:=ja hg (t:=t.data.toList) (by rw[<-e,dz]);have h2:=HW.out;unfold kh at h2;rw[<-h2,HX.out]at h1;rw[<-h1,<-HB.out,<-mD x3,hRL]
       rfl)
      have STR:=Hs (bj wr ⟨aE x0,RL,aE x1,aE x2,B⟩ a) (⟨by unfold maxLen; dsimp only; omega,MR⟩);have BLT:=Hx (Gl HV.out);obtain⟨T,hT⟩:=Nn (aQ (aP ⟨aE x0,RL,aE x1,aE x2,B⟩));have HT:=Hx hT;have ALO:=Hs (∀q o,a=some ⟨q,o,none⟩->w1.heap.size<=q) (λq o e=>bX.blk OWN.out q (by rw[e]; rfl));clear hL MR IF hlen lB hRL hT NB OWN;go_wp2_with fail;refine(check_any ⟨aE x0,RL,aE x1,aE x2,B⟩ a cap _ STR.out).mono ?_;rintro e w6 ⟨rfl,b6⟩;have B6:=Hx b6;have Z6:=Hs (w6.heap[w.heap.size]?=some (.cells #[.int .i64 0,.slice none 0 0,.int .i64 0,.int .i64 0,.bool false] 34 (0,0))) ((b6.block _ (by have:=BW.out.size; omega)).trans ((BW.out.block _ (by omega)).trans R1.out));have W6:=Hs (Below w.heap.size w w6) ((B1.out.trans (BW.out.mono (by omega))).trans (b6.mono (by have:=BW.out.size; omega)));have V6:=Hx ((b6.block b BLT.out).trans HV.out);clear e0 e1 e2 e3 e4 b6;by_cases hf:ar ⟨aE x0,RL,aE x1,aE x2,B⟩=0
      .rw[hf,aH];have HG:=Hx ((fq _).1 hf);obtain⟨e0,e1,e2,e3,e4⟩:=(cells5 V6.out).1;clear hf;go_wp2_with fail;refine(tG ⟨aE x0,RL,aE x1,aE x2,B⟩ a cap _ ((TT.out.on W6.out)) (STR.out.below B6.out) HG.out.fits (by have:=HG.out.regs_len; omega)).mono ?_;rintro e w7 ⟨rfl,b7⟩;rw[<-HT.out];have W7:=Hx (W6.out.trans (b7.mono W6.out.size));have Z7:=Hx ((b7.block _ (Gl Z6.out)).trans Z6.out);have V7:=Hx ((b7.block b (Gl V6.out)).trans V6.out);have S7:=Hx ((STR.out.below B6.out).below b7);clear e0 e1 e2 e3 e4 b7;obtain⟨⟨z0,z1,z2,z3,z4⟩,f0,f1,f2,f3,f4⟩:=cells5 Z7.out;by_cases he:T=t
       .obtain⟨e0,e1,e2,e3,e4⟩:=(cells5 V7.out).1
        have hq:(T.toList == t.toList)=true:=by rw[he]; simp
        have hq2:(T.toList != t.toList)=false:=by rw[he]; simp
        have HE:=Hx he;clear he;go_wp2;refine bodyPost_ret (v:=.tuple #[dh ⟨aE x0,RL,aE x1,aE x2,B⟩ a cap,.nilIface]) (iG Tryz.results142 _ _ w.heap.size 34 #[.int .i64 (aE x0),.slice a RL.length cap,.int .i64 (aE x1),.int .i64 (aE x2),.bool B] _ .nilIface rfl rfl (dF Z7.out _ _ _ _ _) br.1 rfl br.2) rfl ?_;exact⟨.inl ⟨_,a,cap,HG.out,by rw[<-HT.out,HE.out],rfl,bj.five S7.out (λq o e=>by have:=ALO.out q o e; omega) _ _ _ _ _,λq o e=>by have:=ALO.out q o e; omega⟩,bW W7.out (Nat.le_refl _) _ _ _ _ _⟩
       .have hq:(T.toList == t.toList)=false:=by rw[ByteArray.toList_eq,ByteArray.toList_eq]; exact beq_eq_false_iff_ne.2 (λh=>he (ByteArray.ext (Array.toList_inj.1 h)))
        have hq2:(T.toList != t.toList)=true:=by rw[bne,hq]; rfl
        have HE:=Hx he;clear he;go_wp2;refine bodyPost_ret (v:=.tuple #[dh ⟨0,[],0,0,false⟩ none 0,bg 3]) (iG Tryz.results142 _ _ w.heap.size 34 #[.int .i64 0,.slice none 0 0,.int .i64 0,.int .i64 0,.bool false] _ (bg 3) rfl rfl (dF Z7.out _ _ _ _ _) br.1 rfl br.2) rfl ?_;exact⟨.inr ⟨λs hg e=>HE.out (by rw[HT.out,<-S0.out s hg e,e]),rfl⟩,bW W7.out (Nat.le_refl _) _ _ _ _ _⟩
      .rw[aK hf];obtain⟨⟨z0,z1,z2,z3,z4⟩,f0,f1,f2,f3,f4⟩:=cells5 Z6.out;have HF:=Hx hf;obtain⟨sf,hsf⟩:=Nn (ar ⟨aE x0,RL,aE x1,aE x2,B⟩);rw[<-hsf];clear hf hsf;go_wp2;refine bodyPost_ret (v:=.tuple #[dh ⟨0,[],0,0,false⟩ none 0,bg 3]) (iG Tryz.results142 _ _ w.heap.size 34 #[.int .i64 0,.slice none 0 0,.int .i64 0,.int .i64 0,.bool false] _ (bg 3) rfl rfl (dF Z6.out _ _ _ _ _) br.1 rfl br.2) rfl ?_;exact⟨.inr ⟨λs hg e=>HF.out (by rw[<-S0.out s hg e]; exact(fq s).2 hg),rfl⟩,bW W6.out (Nat.le_refl _) _ _ _ _ _⟩
end
section
open Go.RowKit Go.Lib
theorem Ar(s:ByteArray)(n:Nat):Lib.splitB ⟨#[32]⟩ 0 n s=(splitK [32] 0 n s.data.toList).map aQ:=by
 have h:=Lib.splitB_data ⟨#[32]⟩ 0 n s
 have h2:(splitK [32] 0 n s.data.toList).map aQ=((Lib.splitB ⟨#[32]⟩ 0 n s).map (·.data.toList)).map aQ:=by rw[h]
 rw[h2,List.map_map]
 have:(aQ ∘ λx:ByteArray=>x.data.toList)=id:=by funext x; simp[aQ]
 rw[this,List.map_id]
theorem ov(s:Bs)(w:World)(t:Tabs w)(h4:4<=s.length)(hs:s.length<=1000) :
  Calls Tryz.prog 140 #[.string (aQ s),.string ⟨#[32]⟩,.int .i64 5] w λe w' =>
   e=.returned (.slice (some ⟨w.heap.size,0,none⟩) (splitK [32] 0 4 s).length 5)/\Below w.heap.size w w'/\w.heap.size<w'.heap.size/\∀i x,(splitK [32] 0 4 s)[i]?=some x->w'.cell? ⟨w.heap.size,i,none⟩=some (.string (aQ x)):=by
 obtain⟨m,hm⟩:=t.cell;have h:=Tryz.strings_SplitN (aQ s) ⟨#[32]⟩ 5 m w (by rw[bp]; omega) hm (by decide) (by decide) (by decide);rw[Ar,bp,show min 5 (s.length+1)=5 by omega,dz]at h
 refine h.mono λe w' ⟨he,hw⟩=>⟨by rw[he,List.length_map],hw▸ay w _,by rw[hw]; simp,λi x hx=>?_⟩
 rw[hw];have hh:=heap_alloc_new w (.cells (Lib.cellsOf ((splitK [32] 0 4 s).map aQ) 5) 9);simp only[World.cell?,hh];have hi:=(List.getElem?_eq_some_iff.1 hx).1;unfold Lib.cellsOf;rw[List.getElem?_toArray,List.getElem?_append_left (by simpa using hi),List.map_map,List.getElem?_map,hx];rfl
theorem ye(x:Bs)(w:World)(hs:x.length<=1000)(h0:∀b∈x,b=0) : Calls Tryz.prog 143 #[.string (aQ x),.string ⟨#[0]⟩] w λe w'=>e=.returned (.string ⟨#[]⟩)/\Below w.heap.size w w':=by
 refine(Tryz.strings_Trim_one (aQ x) 0 (by decide) w (by rw[bp]; omega)).mono λe w' ⟨he,hw⟩=>⟨?_,?_⟩
 .rw[he,dz];unfold Lib.trimB;rw[Lib.trimRightB_take x 0 0 (by omega) (λj b _ hb=>h0 b (List.mem_of_getElem? hb)) (λb h _=>absurd h (by omega)),List.take_zero];rfl
 .rcases hw with rfl | rfl
  .exact Below.refl _ _
  .exact(Below.refl _ _).drew
theorem mE(n:Int)(w:World)(t:Tabs w)(h0:0<=n)(h1:n<=9223372036854775807) : Calls Tryz.prog 141 #[.string (aQ (itoa n))] w λe w'=>e=.returned (.tuple #[.int .i64 n,.nilIface])/\Below w.heap.size w w':=by
 refine(uO (aQ (itoa n)) w t (by rw[bp]; have:=bM n (by omega) h1; omega)).mono ?_;rintro e w' (⟨v,hv,he,hb⟩ | ⟨hv,-⟩)
 .rw[dz,iY n (by omega) h1]at hv
  injection hv with hv
  subst hv;exact⟨he,hb⟩
 .exact absurd (by rw[dz]; exact iY n (by omega) h1) (hv n)
