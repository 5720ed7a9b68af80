import Derived.Test.YtjalgpcigojpkaaGreatDoorQ35
import Derived.Test.YtjalgpcigojpkaaGreatDoorQ36
import Derived.Test.YtjalgpcigojpkaaGreatDoorQ34
set_option maxRecDepth 99999
set_option maxHeartbeats 99999999
namespace Go.Proofs.YtjalgpcigojpkaaGreatDoor
section
open List (getElem_toArray getElem_cons_zero getElem_cons_succ setIfInBounds_toArray set_cons_zero set_cons_succ)
open Go.RowKit Go.Sort
theorem cells4{W:World}{b:Nat}{v0 v1 v2 v3:Value}{T:TypeId}(h:W.heap[b]?=some (.cells #[v0,v1,v2,v3] T (0,0))) : (W.cell? ⟨b,0,none⟩=some v0/\W.cell? ⟨b,1,none⟩=some v1/\W.cell? ⟨b,2,none⟩=some v2/\W.cell? ⟨b,3,none⟩=some v3)/\(W.frozen? ⟨b,0,none⟩=false/\W.frozen? ⟨b,1,none⟩=false/\W.frozen? ⟨b,2,none⟩=false/\W.frozen? ⟨b,3,none⟩=false):=by
 simp[World.cell?,World.frozen?,h]
theorem cells9{W:World}{b:Nat}{v0 v1 v2 v3 v4 v5 v6 v7 v8:Value}{T:TypeId}(h:W.heap[b]?=some (.cells #[v0,v1,v2,v3,v4,v5,v6,v7,v8] T (0,0))):W.cell? ⟨b,0,none⟩=some v0/\W.cell? ⟨b,1,none⟩=some v1/\W.cell? ⟨b,2,none⟩=some v2/\W.cell? ⟨b,3,none⟩=some v3/\W.cell? ⟨b,4,none⟩=some v4/\W.cell? ⟨b,5,none⟩=some v5/\W.cell? ⟨b,6,none⟩=some v6/\W.cell? ⟨b,7,none⟩=some v7/\W.cell? ⟨b,8,none⟩=some v8:=by simp[World.cell?,h]
theorem xO{a b:ByteArray}:a.toList=b.toList ↔ a=b:=by
 rw[ByteArray.toList_eq,ByteArray.toList_eq];constructor
 .intro h;cases a; cases b
  exact congrArg ByteArray.mk (Array.toList_inj.1 h)
 .rintro rfl; rfl
def four (w:World)(T:Nat)(v0 v1 v2 v3:Value):World:=(((w.setCell ⟨T,0,none⟩ v0).setCell ⟨T,1,none⟩ v1).setCell ⟨T,2,none⟩ v2).setCell ⟨T,3,none⟩ v3
theorem Es{wx:World}{T:Nat}{x0 x1 x2 x3:Value}{Ty:TypeId}(h:wx.heap[T]?=some (.cells #[x0,x1,x2,x3] Ty (0,0)))(v0 v1 v2 v3:Value):(four wx T v0 v1 v2 v3).heap[T]?=some (.cells #[v0,v1,v2,v3] Ty (0,0)):=by exact one_setCell (one_setCell (one_setCell (one_setCell h v0) v1) v2) v3
theorem Hv(w:World)(T:Nat)(v0 v1 v2 v3:Value):ac (·=T) w (four w T v0 v1 v2 v3) :=
 ((((ac.refl (·=T) w).setCell (p:=⟨T,0,none⟩) rfl _).setCell (p:=⟨T,1,none⟩) rfl _).setCell (p:=⟨T,2,none⟩) rfl _).setCell (p:=⟨T,3,none⟩) rfl _
theorem EW{B:Nat}{w:World}{a:Option Addr}{l:List Int}(h:fB B w a l){b o:Nat}(e:a=some ⟨b,o,none⟩)(Ik:l≠[]):B<=b/\b<w.heap.size:=by
 cases l with
 | nil=>exact absurd rfl Ik
 | cons x l =>
  obtain⟨b',o',e',h1,h2,-⟩:=h 0 (by simp);rw[e]at e';simp only[Option.some.injEq,Addr.mk.injEq]at e';obtain⟨rfl,-,-⟩:=e';exact⟨h1,h2⟩
theorem fB.below{B:Nat}{w w':World}{a:Option Addr}{l:List Int}(h:fB B w a l)(b:Below w.heap.size w w'):fB B w' a l:=by intro i hi;obtain⟨c,o,e,h1,h2,h3⟩:=h i hi;exact⟨c,o,e,h1,Nat.lt_of_lt_of_le h2 b.size,(b.cell (p:=⟨c,o+i,none⟩) h2).trans h3⟩
theorem fB.keepsU{B U:Nat}{w w':World}{a:Option Addr}{l:List Int}(h:fB B w a l)(k:ac (·=U) w w')(nv:∀b o,a=some ⟨b,o,none⟩->l≠[]->b≠U):fB B w' a l:=by
 intro i hi;obtain⟨c,o,e,h1,h2,h3⟩:=h i hi
 have Ik:l≠[]:=λq=>by rw[q]at hi; simp at hi
 exact⟨c,o,e,h1,Nat.lt_of_lt_of_le h2 k.size,(k.cell (nv c o e Ik) h2).trans h3⟩
def GH (w2:World)(b:Bx)(who:Int)(U:Nat)(wx:World):Prop :=
 ∃s:Sl,wx.heap[U]?=some (.cells #[(b.set who s).s1.v,(b.set who s).s2.v,(b.set who s).s3.v,(b.set who s).s4.v] 99 (0,0))/\s.ok wx/\s.l=(b.get who).l.tail/\fB w2.heap.size wx s.a s.l/\w2.heap.size<=U/\Below w2.heap.size w2 wx
theorem uT{w2 wd:World}{b:Bx}{who:Int}{U:Nat}{x0 x1 x2 x3:Value}{s:Sl}(bl:Below w2.heap.size w2 wd)(hU:w2.heap.size<=U)(hv:wd.heap[U]?=some (.cells #[x0,x1,x2,x3] 99 (0,0)))(ok:s.ok wd)(hl:s.l=(b.get who).l.tail)(hh:fB w2.heap.size wd s.a s.l)(nv:∀b o,s.a=some ⟨b,o,none⟩->s.l≠[]->b≠U) : GH w2 b who U (four wd U (b.set who s).s1.v (b.set who s).s2.v (b.set who s).s3.v (b.set who s).s4.v)/\Below w2.heap.size w2 (four wd U (b.set who s).s1.v (b.set who s).s2.v (b.set who s).s3.v (b.set who s).s4.v):=by
 have kp:=Hv wd U (b.set who s).s1.v (b.set who s).s2.v (b.set who s).s3.v (b.set who s).s4.v;have hb:Below w2.heap.size w2 (four wd U (b.set who s).s1.v (b.set who s).s2.v (b.set who s).s3.v (b.set who s).s4.v):=bl.trans (kp.below bl.size (λc e=>by rw[e]; exact hU));have hh':=hh.keepsU kp nv;exact⟨⟨s,Es hv _ _ _ _,⟨hh'.ints,ok.len,ok.cap⟩,hl,hh',hU,hb⟩,hb⟩
section
variable (w0 w:World) (n D T:Nat) (t:Tg) (Y:Nat->Prop) (S:aw->Prop) (B:Int)
theorem yi(c:bG)(h:bR w0 n D T t Y w)(hn:GO n t)(hj:6<c.op->TJ n S B t)(hB:B+2<1000000000000000)(hs:c.data.size<=9223372036854775807/\c.want.size<=9223372036854775807)(tt:Tabs w0) : Calls Tryz.prog 9 #[.pointer (some ⟨T,0,none⟩),eX c] w λe w'=>e=.returned (.tuple #[.string (t.ask n c).2.data,.int .i64 (t.ask n c).2.tag,.int .i64 (t.ask n c).2.what,bg (t.ask n c).2.err])/\bR w0 n D T (t.ask n c).1 Y w'/\Same Y w w':=by
 have HJ0:=Hx hj;have Oq:=Hx hB;have TT:=Hx tt;have HS:=Hx hs;have GD:=Hs (Good t.k.s) hn.kg.kd.place.k.g;have NB:=Hx hn;obtain⟨w1,pX⟩:=Nn (w.alloc (.cells #[.int .i64 c.op,.int .i64 c.who,.int .i64 c.key,.int .i64 c.new,.int .i64 c.typ,.int .i64 c.at',.bool c.stays,.string c.data,.string c.want] 39));have B1:=Hs (Below w.heap.size w w1) (pX▸ay w _);have R1:=Hs (w1.heap[w.heap.size]?=some (.cells #[.int .i64 c.op,.int .i64 c.who,.int .i64 c.key,.int .i64 c.new,.int .i64 c.typ,.int .i64 c.at',.bool c.stays,.string c.data,.string c.want] 39 (0,0))) (pX▸heap_alloc_new w _)
 have HA:=(Gl R1.out)
 have SY1:=Hs (Same Y w w1) (λb hb=>B1.out.block b (h.lt_y b hb))
 obtain⟨Z,hZ⟩:∃Z:Nat->Prop,Z=λc=>Y c\/(w.heap.size<=c/\c<w1.heap.size):=⟨_,rfl⟩
 have H1:=Hs (bR w0 n D T t Z w1) (hZ▸h.more B1.out);have ZY:=Hs (∀b,Y b->Z b) (λb hb=>hZ▸Or.inl hb);have ZA:=Hs (Z w.heap.size) (hZ▸Or.inr ⟨Nat.le_refl _,HA⟩);clear h hj hB hs tt hZ hn;obtain⟨R,hR⟩:=Nm (t.ask n c);have HR:=Hx hR.symm;rw[hR];clear hR;have CK:=Hx (wR c w1 HS.out);obtain⟨q0,q1,q2,q3,q4,q5,q6,q7,q8⟩:=cells9 R1.out;go_enter Tryz.func9,Tryz.ntmps9
 go_upto_region 1 with fail;rw[<-pX];clear pX;go_wp2_with fail;refine CK.out.mono ?_;rintro e w2 ⟨rfl,b2⟩;have H2:=Hx (H1.out.over b2);have SY2:=Hs (Same Y w w2) (SY1.out.trans (λb hb=>b2.block b (H1.out.lt_y b (ZY.out b hb))));have R2:=Hx ((b2.block _ HA).trans R1.out);obtain⟨A,hA⟩:=Nm w.heap.size;rw[hA]at R2 ZA ⊢;clear b2 CK q0 q1 q2 q3 q4 q5 q6 q7 q8 B1 R1 HA SY1 H1 hA;by_cases hf:aB c=0
 case neg =>
  have E:=Hs (R=(t,gB.bad (aB c))) (HR.out.trans (by unfold Tg.ask; rw[if_pos hf]));rw[aK hf];have HF:=Hx hf;clear hf;go_wp2;exact bodyPost_ret (v:=.tuple #[.string ⟨#[]⟩,.int .i64 0,.int .i64 0,.iface 108 (.int .i64 (aB c))]) (by simp[results,Tryz.results9,go_sem]) rfl (by rw[E.out]; exact⟨by unfold gB.bad; rw[aK HF.out],H2.out.less ZY.out,SY2.out⟩)
 rw[hf,aH];obtain⟨hc,Iw,-⟩:=dR hf;have HC:=Hx hc;have HAT:=Hx Iw;have HF:=Hx hf;clear hf hc Iw;have TKE:=Hs (takeN (t.b.get c.who)=takeN (t.b.get c.who)) rfl;obtain⟨TN,hTN⟩:=Nm (takeN (t.b.get c.who));have HTN:=Hx hTN;obtain⟨X,m,ki,tb,lo,hy⟩:=H2.out
 have hT:=(Gl tb.blk)
 have hAl:=(Gl R2.out)
 have SC:=Hx (λw' (b:Below w2.heap.size w2 w')=>(b.cell (p:=⟨T,0,none⟩) hT).trans (aG tb.blk tb.ok).1.1);have CB:=Hx (λw' (b:Below w2.heap.size w2 w')=>cells9 ((b.block A hAl).trans R2.out));have STA:=Hx (λw' (b:Below w2.heap.size w2 w')=>rF n w0 w' X D m.K t.k (ki.over b) (by have:=GD.out.regs_len; omega))
 have BTS:=Hs (∀w',Below w2.heap.size w2 w'->(w'.cell? ⟨T,79,none⟩=some m.b.s1.v/\w'.cell? ⟨T,80,none⟩=some m.b.s2.v/\w'.cell? ⟨T,81,none⟩=some m.b.s3.v/\w'.cell? ⟨T,82,none⟩=some m.b.s4.v)/\w'.frozen? ⟨T,79,none⟩=false/\w'.frozen? ⟨T,80,none⟩=false/\w'.frozen? ⟨T,81,none⟩=false/\w'.frozen? ⟨T,82,none⟩=false) (λw' b=>by
  obtain⟨⟨-,y1,y2,y3,y4,-⟩,-,z1,z2,z3,z4,-⟩:=aG ((b.block T hT).trans tb.blk) tb.ok
  exact⟨⟨y1,y2,y3,y4⟩,z1,z2,z3,z4⟩)
 obtain⟨b0,JR⟩:=Nm m.b;have L0:=Hs ((b0.get c.who).l=t.b.get c.who) (JR▸(tb.box c.who).eq);have BX4:=Hx (λw' b=>(BTS.out w' b).1)
 have TAKE:=Hs (∀w',Below w2.heap.size w2 w'->Calls Tryz.prog 42 #[.agg #[b0.s1.v,b0.s2.v,b0.s3.v,b0.s4.v],.int .i64 c.who] w' λe w''=>∃s:Sl,e=.returned (.tuple #[.agg #[(b0.set c.who s).s1.v,(b0.set c.who s).s2.v,(b0.set c.who s).s3.v,(b0.set c.who s).s4.v],.int .i64 TN])/\s.ok w''/\s.l=(b0.get c.who).l.tail/\Below w'.heap.size w' w''/\fB w'.heap.size w'' s.a s.l) (λw' b=>by
  have q:=yj b0 c.who w' (JR▸tb.boxOk.below b) HC.out.who;unfold mG at q;rw[L0.out,hTN]at q;rw[L0.out]
  exact q)
 have PUTB:=Hs (∀w',Below w2.heap.size w2 w'->∀s:Sl,s.ok w'->s.l=(b0.get c.who).l.tail->fB w2.heap.size w' s.a s.l->bR w0 n D T { t with b:=t.b.set c.who (t.b.get c.who).tail } Z (fH w' T (b0.set c.who s))/\Same Z w2 (fH w' T (b0.set c.who s))) (λw' b s ok hl hh=>by
  have q:=bR.setBox1 ki tb lo hy b HC.out.who s ok (.inr hh);rw[hl,L0.out,JR]at q
  exact⟨q.1,q.2.1⟩)
 rw[JR]at BX4;have TBS:=Hs (∀w',Below w2.heap.size w2 w'->(w'.cell? ⟨T,79,none⟩=some b0.s1.v/\w'.cell? ⟨T,80,none⟩=some b0.s2.v/\w'.cell? ⟨T,81,none⟩=some b0.s3.v/\w'.cell? ⟨T,82,none⟩=some b0.s4.v)/\w'.frozen? ⟨T,79,none⟩=false/\w'.frozen? ⟨T,80,none⟩=false/\w'.frozen? ⟨T,81,none⟩=false/\w'.frozen? ⟨T,82,none⟩=false) (JR▸BTS.out);clear ki tb lo hy hTN JR BTS TKE;go_upto_region 4 with fail;go_cut [8,9] (λv8 v9 wx=>∃U,v8=.pointer (some ⟨U,0,none⟩)/\v9=.int .i64 TN/\GH w2 b0 c.who U wx)
 case first =>
  obtain⟨S,hS⟩:∃S:World->Prop,S=λw'=>Below w2.heap.size w2 w':=⟨_,rfl⟩
  have S3:∀w',Below w2.heap.size w2 w'->S w':=λw' h=>by rw[hS]; exact h
  have S4:∀w',S w'->Below w2.heap.size w2 w':=λw' h=>by rw[hS]at h; exact h
  clear hS;refine wp_region_held_drew (S:=S) (by kernel_rfl) (S3 _ (Below.refl _ _).drew) (λdT=>?_);obtain⟨wd,IB⟩:=Nn w2.drew;rw[<-IB]at dT ⊢;clear IB;refine wt 0 _ dT ?_;go_simp;refine wt 1 _ dT ?_;go_simp;refine wt 2 _ dT ?_;go_simp;refine wt 3 (.agg #[b0.s1.v,b0.s2.v,b0.s3.v,b0.s4.v]) dT ?_ (hy:=Or.inl ⟨by rfl,λw' sT=>by obtain⟨y1,y2,y3,y4⟩:=BX4.out w' (S4 w' sT); go_simp⟩);go_simp;refine wt 4 _ dT ?_;go_simp;refine wt 5 (.int .i64 c.who) dT ?_ (hy:=Or.inl ⟨by rfl,λw' sT=>by obtain⟨q0,q1,q2,q3,q4,q5,q6,q7,q8⟩:=CB.out w' (S4 w' sT); go_simp⟩);go_simp;refine DV 6 10 (λKx hK=>?_) (λKx hK=>?_)
  .go_simp;refine(TAKE.out _ (S4 _ dT)).mono ?_;rintro e w1_ ⟨s1,rfl,ho1,hl1,b1,hh1⟩;have OK1:=Hx ho1;have HL1:=Hx hl1;have HI1:=Hx (hh1.mono (S4 _ dT).size);have IW:=S3 _ ((S4 _ dT).trans (b1.mono (S4 _ dT).size));clear ho1 hl1 hh1 b1;refine hK.out _ _ IW (λIb=>?_);clear hK Kx IW;refine wt 7 _ Ib ?_;go_simp;refine wt 8 _ Ib ?_;go_simp;refine wt 9 _ Ib ?_;go_simp;refine eB 10 λKx hK=>?_;go_simp;obtain⟨w2_,IQ⟩:=Nn (w1_.alloc (.cells #[.slice none 0 0,.slice none 0 0,.slice none 0 0,.slice none 0 0] 99));have HV2:=Hs (w2_.heap[w1_.heap.size]?=some (.cells #[.slice none 0 0,.slice none 0 0,.slice none 0 0,.slice none 0 0] 99 (0,0))) (IQ▸heap_alloc_new _ _);have b2:Below w1_.heap.size w1_ w2_:=IQ▸ay _ _;have LO2:w2.heap.size<=w1_.heap.size:=(S4 _ Ib).size;have Je:=S3 _ ((S4 _ Ib).trans (b2.mono (S4 _ Ib).size));rw[<-IQ];have OK2:=Hx (Sl.ok.below OK1.out b2);have HI2:=Hx (fB.below HI1.out b2);have NV2:=Hs (∀b o,s1.a=some ⟨b,o,none⟩->s1.l≠[]->b≠w1_.heap.size) (λb o q Ik=>by have:=EW HI1.out q Ik; omega);obtain⟨V2,Nr⟩:=Nm w1_.heap.size;rw[Nr]at HV2 LO2 NV2 ⊢;clear IQ Nr b2;refine hK.out _ _ Je (λIa=>?_);clear hK Kx Je;refine eB 11 λKx hK=>?_;obtain⟨⟨y0,y1,y2,y3⟩,z0,z1,z2,z3⟩:=cells4 HV2.out;go_simp;clear y0 y1 y2 y3 z0 z1 z2 z3;have AC3:=Hx (uT (b:=b0) (who:=c.who) (S4 _ Ia) LO2 HV2.out OK2.out HL1.out HI2.out NV2.out);have JD:=S3 _ AC3.out.2;refine hK.out _ _ JD (λID=>?_);clear hK Kx JD;refine eB 12 λKx hK=>?_;go_simp;have KV:=ID;refine hK.out _ _ KV (λJi=>?_);clear hK Kx KV;refine wpAnyH_done (by kernel_rfl) ?_ _;go_wp2_with fail;go_meet;exact⟨V2,rfl,rfl,AC3.out.1⟩
  .go_simp;obtain⟨w5_,Jc⟩:=Nn (wd.alloc (.cells #[.slice none 0 0,.slice none 0 0,.slice none 0 0,.slice none 0 0] 99));have Nu:=Hs (w5_.heap[wd.heap.size]?=some (.cells #[.slice none 0 0,.slice none 0 0,.slice none 0 0,.slice none 0 0] 99 (0,0))) (Jc▸heap_alloc_new _ _);have b5:Below wd.heap.size wd w5_:=Jc▸ay _ _;have LO5:w2.heap.size<=wd.heap.size:=(S4 _ dT).size;have KU:=S3 _ ((S4 _ dT).trans (b5.mono (S4 _ dT).size));rw[<-Jc];obtain⟨V5,hV5⟩:=Nm wd.heap.size;rw[hV5]at Nu LO5 ⊢;clear Jc hV5 b5;refine hK.out _ _ KU (λIM=>?_);clear hK Kx KU;refine eB 6 λKx hK=>?_;go_simp;refine(TAKE.out _ (S4 _ IM)).mono ?_;rintro e w6_ ⟨s6,rfl,ho6,hl6,b6,hh6⟩;have OK6:=Hx ho6;have HL6:=Hx hl6;have HI6:=Hx (hh6.mono (S4 _ IM).size);have NV6:=Hs (∀b o,s6.a=some ⟨b,o,none⟩->s6.l≠[]->b≠V5) (λb o q Ik=>by have:=EW hh6 q Ik; have:=(Gl Nu.out); omega);have M5:=Hx ((b6.block _ (Gl Nu.out)).trans Nu.out);have KT:=S3 _ ((S4 _ IM).trans (b6.mono (S4 _ IM).size));clear ho6 hl6 hh6 b6;refine hK.out _ _ KT (λIt=>?_);clear hK Kx KT;refine wt 7 _ It ?_;go_simp;refine wt 8 _ It ?_;go_simp;refine wt 9 _ It ?_;go_simp;refine eB 11 λKx hK=>?_;obtain⟨⟨y0,y1,y2,y3⟩,z0,z1,z2,z3⟩:=cells4 M5.out;go_simp;clear y0 y1 y2 y3 z0 z1 z2 z3;have AC7:=Hx (uT (b:=b0) (who:=c.who) (S4 _ It) LO5 M5.out OK6.out HL6.out HI6.out NV6.out);have KQ:=S3 _ AC7.out.2;refine hK.out _ _ KQ (λIC=>?_);clear hK Kx KQ;refine eB 12 λKx hK=>?_;go_simp;have KO:=IC;refine hK.out _ _ KO (λOh=>?_);clear hK Kx KO;refine wpAnyH_done (by kernel_rfl) ?_ _;go_wp2_with fail;go_meet;exact⟨V5,rfl,rfl,AC7.out.1⟩
 case rest =>
 obtain⟨w3,rfl⟩:∃w2:World,w2=wc:=⟨_,rfl⟩
 obtain⟨U,rfl,rfl,s,hU,ok,hl,hh,NQ,hb⟩:=hcut;have B3:=Hx hb;have HU:=Hx hU;have PUT:=Hx (PUTB.out w3 hb s ok hl hh);clear hU ok hl hh hb PUTB TAKE;by_cases htn:0<TN
 .have E:=Hs (R=({ t with b:=t.b.set c.who (t.b.get c.who).tail },⟨⟨#[]⟩,0,TN,0⟩)) (HR.out.trans (by
   unfold Tg.ask
   rw[if_neg (by rw[HF.out]; decide),if_pos (by rw[HTN.out]; exact htn),HTN.out]))
  have Q:=PUT.out;unfold fH at Q;have Q2:=Hx Q;obtain⟨⟨y0,y1,y2,y3⟩,z0,z1,z2,z3⟩:=cells4 HU.out;obtain⟨⟨x1,x2,x3,x4⟩,u1,u2,u3,u4⟩:=TBS.out w3 B3.out;clear Q PUT TBS SC CB STA BX4;go_wp2;exact bodyPost_ret (v:=.tuple #[.string ⟨#[]⟩,.int .i64 0,.int .i64 TN,.nilIface]) (by simp[results,Tryz.results9,go_sem]) rfl (by rw[E.out]; exact⟨by rw[aH],Q2.out.1.less ZY.out,SY2.out.trans (λb hb=>Q2.out.2 b (ZY.out b hb))⟩)
 have HTN0:=Hs (¬ 0<takeN (t.b.get c.who)) (by rw[HTN.out]; exact htn);have H3:=Hx (H2.out.over B3.out);have R3:=Hx ((B3.out.block A hAl).trans R2.out);have SY3:=Hs (Same Y w w3) (SY2.out.trans (λb hb=>B3.out.block b (H2.out.lt_y b (ZY.out b hb))));obtain⟨d0,d1,d2,d3,d4,d5,d6,d7,d8⟩:=CB.out w3 B3.out;clear PUT TBS BX4;by_cases Jt:c.op<=6
 .have E:=Hs (R=((t.order n c).1,gB.bad (t.order n c).2)) (HR.out.trans (by
   unfold Tg.ask
   rw[if_neg (by rw[HF.out]; decide),if_neg HTN0.out,if_pos Jt]))
  have ORD:=Hx (vi w0 w3 n D T t Z c H3.out NB.out HC.out (tw GD.out HC.out) TT.out);clear SC CB STA;go_wp2_with fail;refine ORD.out.mono ?_;rintro e w4 ⟨rfl,h4,sm4⟩;have P:=Hs (bR w0 n D T (t.order n c).1 Y w4/\Same Y w w4) (⟨h4.less ZY.out,SY3.out.trans (λb hb=>sm4 b (ZY.out b hb))⟩);clear h4 sm4 ORD;go_wp2;exact bodyPost_ret (v:=.tuple #[.string ⟨#[]⟩,.int .i64 0,.int .i64 0,bg (t.order n c).2]) (by simp[results,Tryz.results9,go_sem]) rfl (by rw[E.out]; exact⟨rfl,P.out.1,P.out.2⟩)
 have HOP:=Hs (¬ c.op<=6) Jt;have HJ:=Hx (HJ0.out (by omega));obtain⟨NR,hNR⟩:=Nm (decide (c.op≠7));obtain⟨MB,hMB⟩:=Nm (ce t.k.s c.who NR);have HNR:=Hx hNR;have HMB:=Hx hMB
 have MAY:=Hs (∀w' x y,bj w' t.k.s x->Calls Tryz.prog 44 #[dh t.k.s x y,.int .i64 c.who,.bool NR] w' λe w''=>e=.returned (.bool MB)/\Below w'.heap.size w' w'') (λw' x y h=>by
  have q:=lF t.k.s x y c.who NR w' h;rw[hMB]at q
  exact q)
 have hNR2:(c.op != 7)=NR:=by rw[<-hNR]; by_cases h:c.op=7<;>simp[h]
 clear hMB hNR;go_upto_region 10 with fail;go_cut [51] (λv wx=>v=.bool (!MB)/\Below w2.heap.size w2 wx)
 case first =>
   obtain⟨S,hS⟩:∃S:World->Prop,S=λw'=>Below w2.heap.size w2 w':=⟨_,rfl⟩
   have S3:∀w',Below w2.heap.size w2 w'->S w':=λw' h=>by rw[hS]; exact h
   have S4:∀w',S w'->Below w2.heap.size w2 w':=λw' h=>by rw[hS]at h; exact h
   clear hS;refine wp_region_held_drew (S:=S) (by kernel_rfl) (S3 _ B3.out.drew) (λdT=>?_);obtain⟨wd,IB⟩:=Nn w3.drew;rw[<-IB]at dT ⊢;clear IB;refine wt 0 _ dT ?_;go_simp;refine wt 1 _ dT ?_;go_simp;refine wt 2 _ dT ?_;go_simp;refine wt 3 (.pointer (some ⟨m.K,0,none⟩)) dT ?_ (hy:=Or.inl ⟨by rfl,λw' sT=>by have hc:=SC.out w' (S4 w' sT); go_simp⟩);go_simp;refine wt 5 _ dT ?_;go_simp;refine wt 6 (.int .i64 c.who) dT ?_ (hy:=Or.inl ⟨by rfl,λw' sT=>by obtain⟨q0,q1,q2,q3,q4,q5,q6,q7,q8⟩:=CB.out w' (S4 w' sT); go_simp⟩);go_simp;refine wt 7 _ dT ?_;go_simp;refine wt 8 (.int .i64 c.op) dT ?_ (hy:=Or.inl ⟨by rfl,λw' sT=>by obtain⟨q0,q1,q2,q3,q4,q5,q6,q7,q8⟩:=CB.out w' (S4 w' sT); go_simp⟩);go_simp;refine wt 9 _ dT ?_;go_simp;refine eB 4 λKx hK=>?_;go_simp;refine(STA.out _ (S4 _ dT)).mono ?_;rintro e w1_ ⟨x1,y1,rfl,Ls,b1,fr1⟩;have HS1:=Hx Ls;have IW:=S3 _ ((S4 _ dT).trans (b1.mono (S4 _ dT).size));clear Ls b1 fr1;refine hK.out _ _ IW (λIb=>?_);clear hK Kx IW;refine eB 10 λKx hK=>?_;go_simp;refine(MAY.out _ _ _ HS1.out).mono ?_;rintro e w2_ ⟨rfl,b2⟩;have Je:=S3 _ ((S4 _ Ib).trans (b2.mono (S4 _ Ib).size));clear b2;refine hK.out _ _ Je (λIa=>?_);clear hK Kx Je;refine wt 11 _ Ia ?_;simp only[Act.put,getElem_toArray,getElem_cons_zero,getElem_cons_succ,setIfInBounds_toArray,set_cons_zero,set_cons_succ];refine wpAnyH_done (by kernel_rfl) ?_ _;go_wp2_with fail;go_meet;exact⟨rfl,S4 _ Ia⟩
 case rest =>
 obtain⟨w4,rfl⟩:∃w2:World,w2=wc:=⟨_,rfl⟩
 obtain⟨rfl,hb⟩:=hcut;have H4:=Hx (H2.out.over hb);have R4:=Hx ((hb.block A hAl).trans R2.out);have SY4:=Hs (Same Y w w4) (SY2.out.trans (λb Ih=>hb.block b (H2.out.lt_y b (ZY.out b Ih))));clear hb B3 HU H3 R3 SY3 d0 d1 d2 d3 d4 d5 d6 d7 d8 SC CB STA MAY hNR2 H2 R2 SY2 hAl hT;cases MB
 .have E:=Hs (R=(t,gB.bad 4)) (HR.out.trans (by
   unfold Tg.ask
   rw[if_neg (by rw[HF.out]; decide),if_neg HTN0.out,if_neg HOP.out,if_pos (by rw[HNR.out,HMB.out])]))
  go_wp2;exact bodyPost_ret (v:=.tuple #[.string ⟨#[]⟩,.int .i64 0,.int .i64 0,.iface 108 (.int .i64 4)]) (by simp[results,Tryz.results9,go_sem]) rfl (by rw[E.out]; exact⟨rfl,H4.out.less ZY.out,SY4.out⟩)
 have MAYT:=Hs (¬ ce t.k.s c.who (decide (c.op≠7))=false) (by rw[HNR.out,HMB.out]; decide);have KAT:=Hs (((c.at'.toNat:Nat):Int)=c.at'/\c.at'.toNat<8) (by have:=HAT.out (by have:=HOP.out; omega); omega)
 have READ:=Hs (∀w',bR w0 n D T t Z w'->Calls Tryz.prog 46 #[.pointer (some ⟨T,0,none⟩),.int .i64 c.at'] w' λe w''=>e=.returned (.tuple #[.string (t.read c.at'.toNat).2.1,bg (t.read c.at'.toNat).2.2])/\bR w0 n D T (t.read c.at'.toNat).1 Z w''/\Same Z w' w'') (λw' h=>by
  have q:=yf w0 w' n D T t Z c.at'.toNat KAT.out.2 h (by have:=HJ.out.ti.e1; omega) HJ.out.ti.qi.ok;rw[KAT.out.1]at q
  exact q.mono λe w'' ⟨h1,h2⟩=>⟨h1,h2.1,h2.2.1⟩)
 obtain⟨rd,Jy⟩:=Nm (t.read c.at'.toNat);rw[Jy]at READ;obtain⟨d0,d1,d2,d3,d4,d5,d6,d7,d8⟩:=cells9 R4.out;by_cases h7:c.op=7
 .have E:=Hs (R=(rd.1,⟨rd.2.1,0,0,rd.2.2⟩)) (HR.out.trans (by
   unfold Tg.ask
   rw[if_neg (by rw[HF.out]; decide),if_neg HTN0.out,if_neg HOP.out,if_neg MAYT.out,if_pos h7,Jy]))
  have READ4:=Hx (READ.out w4 H4.out);clear READ Jy;go_wp2_with fail;refine READ4.out.mono ?_;rintro e w5 ⟨rfl,h5,sm5⟩;dsimp only;have P:=Hs (bR w0 n D T rd.1 Y w5/\Same Y w w5) (⟨h5.less ZY.out,SY4.out.trans (λb hb=>sm5 b (ZY.out b hb))⟩);clear h5 sm5 READ4;go_wp2;exact bodyPost_ret (v:=.tuple #[.string rd.2.1,.int .i64 0,.int .i64 0,bg rd.2.2]) (by simp[results,Tryz.results9,go_sem]) rfl (by rw[E.out]; exact⟨rfl,P.out.1,P.out.2⟩)
 have RDY:=Hs (Calls Tryz.prog 47 #[.pointer (some ⟨T,0,none⟩)] w4 λe w'=>e=.returned (bg (if t.isReady then 0 else 7))/\bR w0 n D T t Z w'/\Same Z w4 w') (by
  have q:=jH w0 w4 n D T t Z H4.out (by have:=HJ.out.ti.e1; omega) (Gp.fence_ok HJ.out.ti.qi.ok _);rw[HJ.out.ti.ready]at q
  exact q.mono λe w'' ⟨h1,h2,h3⟩=>⟨h1,h2,H4.out.same_y h3⟩)
 have ASK:=Hs (R=if t.isReady=false then(t,gB.bad 7) else if c.op=9 then t.doComp c else t.doWrite c) (HR.out.trans (by
   unfold Tg.ask
   rw[if_neg (by rw[HF.out]; decide),if_neg HTN0.out,if_neg HOP.out,if_neg MAYT.out,if_neg h7,HJ.out.ti.ready]))
 have HRD:=Hx Jy;clear Jy;go_wp2_with fail;refine RDY.out.mono ?_;rintro e w5 ⟨rfl,h5,sm5⟩;have H5:=Hx h5;have SY5:=Hs (Same Y w w5) (SY4.out.trans (λb hb=>sm5 b (ZY.out b hb)));have R5:=Hx ((sm5 A ZA.out).trans R4.out);clear h5 sm5 RDY d0 d1 d2 d3 d4 d5 d6 d7 d8 R4 H4 SY4;obtain⟨d0,d1,d2,d3,d4,d5,d6,d7,d8⟩:=cells9 R5.out;rw[jR];cases Ju:t.isReady
 .have E:=Hs (R=(t,gB.bad 7)) (ASK.out.trans (if_pos Ju));clear Ju;rw[if_neg (by decide)];go_wp2;exact bodyPost_ret (v:=.tuple #[.string ⟨#[]⟩,.int .i64 0,.int .i64 0,.iface 108 (.int .i64 7)]) (by simp[results,Tryz.results9,go_sem]) rfl (by rw[E.out]; exact⟨rfl,H5.out.less ZY.out,SY5.out⟩)
 rw[if_pos rfl];have ASK2:=Hx (ASK.out.trans (if_neg (by rw[Ju]; decide)))
 have MM:=Hs (2<=(t.g.mem t.k.ep).length) (by
  have:=HJ.out.ti.isReady;rw[Ju]at this
  exact of_decide_eq_true this.symm)
 clear Ju ASK
 have WRITE:=Hs (∀u w',TI n S B u->bR w0 n D T u Z w'->Calls Tryz.prog 50 #[.pointer (some ⟨T,0,none⟩),eX c] w' λe w''=>e=.returned (.tuple #[.int .i64 (u.write c).2.1,bg (u.write c).2.2])/\bR w0 n D T (u.write c).1 Z w''/\Same Z w' w'') (λu w' hu h =>
  vc w0 w' n D T u Z c h ⟨by have:=hu.n0; have:=Oq.out; omega,by have:=hu.t0; have:=Oq.out; omega,by have:=hu.fl; omega,λx hx=>(hu.wt x hx).2.1⟩)
 by_cases h9:c.op=9
 case neg =>
  have E:=Hs (R=((t.write c).1,⟨⟨#[]⟩,(t.write c).2.1,0,(t.write c).2.2⟩)) (ASK2.out.trans (if_neg h9));have WR:=Hx (WRITE.out t w5 HJ.out.ti H5.out);clear READ WRITE;go_wp2_with fail;refine WR.out.mono ?_;rintro e w6 ⟨rfl,h6,sm6⟩;dsimp only;have P:=Hs (bR w0 n D T (t.write c).1 Y w6/\Same Y w w6) (⟨h6.less ZY.out,SY5.out.trans (λb hb=>sm6 b (ZY.out b hb))⟩);clear h6 sm6 WR;go_wp2;exact bodyPost_ret (v:=.tuple #[.string ⟨#[]⟩,.int .i64 (t.write c).2.1,.int .i64 0,bg (t.write c).2.2]) (by simp[results,Tryz.results9,go_sem]) rfl (by rw[E.out]; exact⟨rfl,P.out.1,P.out.2⟩)
 have TIR:=Hs (TI n S B rd.1) (HRD.out▸HJ.out.ti.read _);have RDE:=Hs (rd.2.2=0) (by rw[<-HRD.out,(eV HJ.out.ti _).2 MM.out])
 have COMP:=Hs (R=if rd.2.2≠0\/rd.2.1≠c.want\/rd.1.busy c.at'=true then(rd.1,gB.bad (rd.1.refuse rd.2.2 c.at')) else rd.1.doWrite c) (ASK2.out.trans (by
  rw[if_pos h9];unfold Tg.doComp
  rw[HRD.out]))
 have READ5:=Hx (READ.out w5 H5.out);clear READ;rw[RDE.out,aH]at READ5;go_wp2_with fail;refine READ5.out.mono ?_;rintro e w6 ⟨rfl,h6,sm6⟩;dsimp only;have H6:=Hx h6;have SY6:=Hs (Same Y w w6) (SY5.out.trans (λb hb=>sm6 b (ZY.out b hb)));have R6:=Hx ((sm6 A ZA.out).trans R5.out);clear h9 h6 sm6 READ5 d0 d1 d2 d3 d4 d5 d6 d7 d8 R5 H5 SY5;obtain⟨d0,d1,d2,d3,d4,d5,d6,d7,d8⟩:=cells9 R6.out;have BUSY:=Hx (qt w0 w6 n D T rd.1 Z c.at' H6.out (by have:=TIR.out.fl; omega));have REF:=Hx (λw' (h:bR w0 n D T rd.1 Z w')=>tu w0 w' n D T rd.1 Z 0 c.at' h (by have:=TIR.out.fl; omega));rw[aH]at REF;obtain⟨BS,hBS⟩:=Nm (rd.1.busy c.at');have HBS:=Hx hBS;rw[hBS]at BUSY;clear hBS;by_cases hw:rd.2.1=c.want
 case neg =>
  have E:=Hs (R=(rd.1,gB.bad (rd.1.refuse 0 c.at'))) (COMP.out.trans (by rw[if_pos (.inr (.inl hw)),RDE.out]));have JW:¬ rd.2.1.toList=c.want.toList:=λh=>hw (xO.1 h);clear hw;have REF6:=Hx (REF.out w6 H6.out);clear REF BUSY WRITE;go_wp2_with fail;refine REF6.out.mono ?_;rintro e w7 ⟨rfl,b7⟩;have P:=Hs (bR w0 n D T rd.1 Y w7/\Same Y w w7) (⟨(H6.out.over b7).less ZY.out,SY6.out.trans (λb hb=>b7.block b (H6.out.lt_y b (ZY.out b hb)))⟩);clear b7 REF6;go_wp2;exact bodyPost_ret (v:=.tuple #[.string ⟨#[]⟩,.int .i64 0,.int .i64 0,bg (rd.1.refuse 0 c.at')]) (by simp[results,Tryz.results9,go_sem]) rfl (by rw[E.out]; exact⟨rfl,P.out.1,P.out.2⟩)
 have JW:rd.2.1.toList=c.want.toList:=xO.2 hw;have HW:=Hx hw;clear hw;go_wp2_with fail;refine BUSY.out.mono ?_;rintro e w7 ⟨rfl,b7⟩;have H7:=Hx (H6.out.over b7);have SY7:=Hs (Same Y w w7) (SY6.out.trans (λb hb=>b7.block b (H6.out.lt_y b (ZY.out b hb))));have R7:=Hx ((b7.block A (H6.out.lt_y A ZA.out)).trans R6.out);clear b7 BUSY d0 d1 d2 d3 d4 d5 d6 d7 d8 R6 H6 SY6;obtain⟨d0,d1,d2,d3,d4,d5,d6,d7,d8⟩:=cells9 R7.out;cases BS
 .have E:=Hs (R=((rd.1.write c).1,⟨⟨#[]⟩,(rd.1.write c).2.1,0,(rd.1.write c).2.2⟩)) (by
   rw[COMP.out,if_neg (show ¬ (rd.2.2≠0\/rd.2.1≠c.want\/rd.1.busy c.at'=true) from λh=>by
    rcases h with h | h | h
    .exact h RDE.out
    .exact h HW.out
    .rw[HBS.out]at h; cases h)]
   unfold Tg.doWrite
   rfl)
  have WR:=Hx (WRITE.out rd.1 w7 TIR.out H7.out);clear REF WRITE;go_wp2_with fail;refine WR.out.mono ?_;rintro e w8 ⟨rfl,h8,sm8⟩;dsimp only;have P:=Hs (bR w0 n D T (rd.1.write c).1 Y w8/\Same Y w w8) (⟨h8.less ZY.out,SY7.out.trans (λb hb=>sm8 b (ZY.out b hb))⟩);clear h8 sm8 WR;go_wp2;exact bodyPost_ret (v:=.tuple #[.string ⟨#[]⟩,.int .i64 (rd.1.write c).2.1,.int .i64 0,bg (rd.1.write c).2.2]) (by simp[results,Tryz.results9,go_sem]) rfl (by rw[E.out]; exact⟨rfl,P.out.1,P.out.2⟩)
 .have E:=Hs (R=(rd.1,gB.bad (rd.1.refuse 0 c.at'))) (COMP.out.trans (by rw[if_pos (.inr (.inr HBS.out)),RDE.out]));have REF7:=Hx (REF.out w7 H7.out);clear REF WRITE;go_wp2_with fail;refine REF7.out.mono ?_;rintro e w8 ⟨rfl,b8⟩;have P:=Hs (bR w0 n D T rd.1 Y w8/\Same Y w w8) (⟨(H7.out.over b8).less ZY.out,SY7.out.trans (λb hb=>b8.block b (H7.out.lt_y b (ZY.out b hb)))⟩);clear b8 REF7;go_wp2;exact bodyPost_ret (v:=.tuple #[.string ⟨#[]⟩,.int .i64 0,.int .i64 0,bg (rd.1.refuse 0 c.at')]) (by simp[results,Tryz.results9,go_sem]) rfl (by rw[E.out]; exact⟨rfl,P.out.1,P.out.2⟩)
theorem od(c:bG)(h:bR w0 n D T t Y w)(hj:TJ n S B t)(hB:B+2<1000000000000000)(hs:c.data.size<=9223372036854775807/\c.want.size<=9223372036854775807)(tt:Tabs w0) : Calls Tryz.prog 9 #[.pointer (some ⟨T,0,none⟩),eX c] w λe w'=>e=.returned (.tuple #[.string (t.ask n c).2.data,.int .i64 (t.ask n c).2.tag,.int .i64 (t.ask n c).2.what,bg (t.ask n c).2.err])/\bR w0 n D T (t.ask n c).1 Y w'/\Same Y w w' :=
 yi w0 w n D T t Y S B c h ⟨hj.kg,hj.ti.qi.ok,by have:=hj.ti.kb; omega⟩ (λ_=>hj) hB hs tt
end
end
section
open Go.RowKit Go.Sort
theorem KI.base{n:Nat}{v w wx:World}{X:Nat->Prop}{D K:Nat}{k:Kp}(h:KI n w X D K k wx)(b:Below v.heap.size v w):KI n v X D K k wx:=by obtain⟨S,a,cap,kr,lo,kb,bl,hx,ax⟩:=h;exact⟨S,a,cap,kr,λc e=>Nat.le_trans b.size (lo c e),Nat.le_trans b.size kb,b.trans (bl.mono b.size),hx,ax⟩
theorem bR.base{v w0 w:World}{n D T:Nat}{t:Tg}{Y:Nat->Prop}(h:bR w0 n D T t Y w)(b:Below v.heap.size v w0):bR v n D T t Y w:=by obtain⟨X,m,ki,tb,lo,hy⟩:=h;exact⟨X,m,ki.base b,⟨tb.blk,tb.ok,tb.xt,tb.xw,tb.xn,tb.wn,tb.box,tb.wait,tb.wl,tb.have',tb.apart,dC.mono (B:=w0.heap.size) tb.fly b.size,tb.xf,tb.done⟩,λc e=>Nat.le_trans b.size (lo c e),hy⟩
def Ah (d:Dk):Tg:=Tg.start ⟨d,3,2,bc⟩ (Gp.start.fence 2)
theorem lr:QI Gp.start 1:=⟨km 3 (by omega),⟨0,1,by omega,by omega,rfl,rfl⟩,λi hi=>by rcases (by omega:i=0\/i=1\/i=2) with rfl | rfl | rfl<;>exact Int.le_refl 1⟩
theorem qy:2<=(Gp.start.mem 1).length:=by decide +kernel
theorem Dl:Fa (·=aw.zero):=⟨rfl,λ_ _ hx hy _ _=>hx.trans hy.symm⟩
theorem Aq{d:Dk}(hk:KD 10 d 1 1 bc)(hf:d.fuse=-1):TI 10 (·=aw.zero) 1 (Tg.start ⟨d,1,1,bc⟩ Gp.start) :=
 ⟨hk,hf,by show(1:Int)<=1; omega,by show(1:Int)<=1; omega,lr,Bl.zero_ok,⟨by show(0:Int)<=0; omega,by show(0:Int)<=1; omega⟩,⟨by show(0:Int)<=0; omega,by show(0:Int)<=1; omega⟩,by simp[Tg.start],(λm hm=>by cases hm),by simp[Tg.start],(λm hm=>by cases hm),List.Pairwise.nil,(λm hm=>by cases hm),Dl,cJ.start rfl,λx hx=>.inl (by subst hx; show(0:Int)<1; omega)⟩
theorem yK{d:Dk}(hk:KD 10 d 1 1 bc)(hf:d.fuse=-1)(sz:Sz d):(Tg.new 10 ⟨d,1,1,bc⟩ Gp.start).2=0/\∃d',(Tg.new 10 ⟨d,1,1,bc⟩ Gp.start).1=Ah d'/\TJ 10 (·=aw.zero) 3 (Ah d'):=by have h:=Aq hk hf;obtain⟨e1,d',e2,e3,e4⟩:=(fk h (by omega)).1 qy (by show ¬ (1:Int)=1000000; omega);have e5:(Tg.new 10 ⟨d,1,1,bc⟩ Gp.start).1=Ah d':=e2;have hs:Sz (Tg.new 10 ⟨d,1,1,bc⟩ Gp.start).1.k.d:=nD (t:=Tg.start ⟨d,1,1,bc⟩ Gp.start) sz bc;rw[e5]at hs;exact⟨e1,d',e5,h.new qy e3 e4,hs⟩
def wX(w:World)(e:Ending)(w':World):Prop :=
 ∃D T d,e=.returned (.tuple #[.pointer (some ⟨D,0,none⟩),.pointer (some ⟨T,0,none⟩),.bool true])/\bR w 10 D T (Ah d) (λ_=>False) w'/\TJ 10 (·=aw.zero) 3 (Ah d)
theorem oZ(w:World)(t:Tabs w):Calls Tryz.prog 6 #[] w λe w'=>wX w e w':=by
 have TT:=Hx t;have NEW:=Hx (CH 10 w (by omega));clear t;go_enter Tryz.func6,Tryz.ntmps6
 go_wp2_with fail;refine NEW.out.mono ?_;rintro e w1 ⟨D,rfl,dk,b1⟩
 have FMT:=Hx (ww (made w w1) w1 D 10 (Dk.new 10) dk ⟨rfl,rfl⟩ (Dk.new_ok (by omega)) (Sz.new 10) (by omega) (by show(0:Nat)<=800; omega) (λb e=>e.2) (Nat.le_trans TT.out.low b1.size)
  (λw' kp=>TT.out.on (b1.trans (kp.below b1.size (λk e=>e.1)))))
 have HB1:=Hx b1;clear dk b1 NEW;go_wp2_with fail;refine FMT.out.mono ?_;rintro e w2 ⟨rfl,d,S,dk,kd,lv,sz,sub,lt,kp⟩;have B2:=Hs (Below w.heap.size w w2) (HB1.out.trans (kp.below HB1.out.size (λk e=>e.1)))
 have LO:=Hs (∀b,S b->w.heap.size<=b) (λb e=>by
  rcases sub b e with e | e
  .exact e.1
  .exact Nat.le_trans HB1.out.size e.1)
 have DK:=Hx dk;have LT:=Hx lt;have NS:=Hx (yK kd lv.1 sz)
 have TN:=Hs (∀w',Below w2.heap.size w2 w'->Calls Tryz.prog 22 #[.pointer (some ⟨D,0,none⟩),.agg Gp.start.arr] w' λe w''=>nO w w' 10 D (λ_=>False) (Tg.new 10 ⟨d,1,1,bc⟩ Gp.start) e w'') (λw' b =>
  (tB w w' 10 D d (λ_=>False) 1 1 bc Gp.start ⟨S,DK.out.below b,λc e=>Nat.lt_of_lt_of_le (LT.out c e) b.size,LO.out,B2.out.trans (b.mono B2.out.size),λc e=>e.elim⟩ kd sz lr.ok (by omega) TT.out (λc e=>e.elim)).mono λe w'' h=>h.1)
 have GN:=Hx (Cb w2);obtain⟨G,hG⟩:=Nm Gp.start.arr;rw[hG]at TN GN;clear dk kd lv sz sub lt kp FMT hG;go_wp2_with fail;refine GN.out.mono ?_;rintro e w3 ⟨rfl,b3⟩;have TN3:=Hx (TN.out w3 b3);clear b3 GN TN;go_wp2_with fail;refine TN3.out.mono ?_;intro e w4 hp;obtain⟨T,rfl,h4,-,-⟩:=hp.1 NS.out.1;obtain⟨-,d',e1,tj⟩:=NS.out;rw[e1]at h4;have P:=Hx h4;have J:=Hx tj;clear hp h4 e1 tj TN3;go_wp2;exact bodyPost_ret (v:=.tuple #[.pointer (some ⟨D,0,none⟩),.pointer (some ⟨T,0,none⟩),.bool true]) (by simp[results,Tryz.results6,go_sem]) rfl ⟨D,T,d',rfl,P.out,J.out⟩
def EF:bG:=⟨8,1,0,0,0,3,false,⟨#[104,97,121]⟩,⟨#[]⟩⟩
def uM:bG:=⟨7,2,0,0,0,3,false,⟨#[]⟩,⟨#[]⟩⟩
def GU (d:Dk):Tg:=((Ah d).ask 10 EF).1
def GQ (d:Dk):Tg:=((GU d).deliver 0 false).1
def Gm (d:Dk):Tg:=((GQ d).deliver 0 false).1
theorem xY(d:Dk):((Ah d).ask 10 EF).2=⟨⟨#[]⟩,1,0,0⟩/\((GU d).deliver 0 false).2=(true,0)/\((GQ d).deliver 0 false).2=(true,0)/\((Gm d).ask 10 uM).2=⟨⟨#[104,97,121]⟩,0,0,0⟩:=by refine⟨?_,?_,?_,?_⟩<;>kernel_rfl
theorem TI.tgd{n:Nat}{S:aw->Prop}{B:Int}{t:Tg}(h:TI n S B t):Hn t:=⟨by have:=h.fl; omega,λm hm=>by have:=h.msg m hm; omega,h.ws⟩
theorem BF(kd:ByteArray):(kd.toList == [97,115,107])=decide (kd=Az):=by rw[<-jy,show Az.toList=[97,115,107] from by rw[ByteArray.toList_eq]; rfl]
theorem pi(kd:ByteArray):(kd.toList == [100,101,108,105,118,101,114])=decide (kd=jf):=by rw[<-jy,show jf.toList=[100,101,108,105,118,101,114] from by rw[ByteArray.toList_eq]; rfl]
theorem xB(kd:ByteArray):(kd.toList == [108,111,115,101])=decide (kd=tO):=by rw[<-jy,show tO.toList=[108,111,115,101] from by rw[ByteArray.toList_eq]; rfl]
theorem uB(kd:ByteArray):(kd.toList == [112,111,119,101,114])=decide (kd=oD):=by rw[<-jy,show oD.toList=[112,111,119,101,114] from by rw[ByteArray.toList_eq]; rfl]
section
variable (w0 w:World) (D T:Nat) (t:Tg) (Y:Nat->Prop) (S:aw->Prop) (B:Int)
end
section
end
section
variable (w0 w:World) (D T:Nat) (t:Tg) (Y:Nat->Prop) (S:aw->Prop) (B:Int)
end
theorem nu{P:Program}{w:World}{T kt et:TypeId}(hT:P.underlying T=some (.map kt et))(hk:P.underlying kt=some (.int .i64)){b:Nat}{l:List (Int × Value)}(h:df w b l)(k:Int){z:Value}(hz:(zeroValue et).run P w=.ok z w) : (Instr.lookup T (.map (some b)) (.int .i64 k) false).run P w=.ok (match dG k l 0 with | some r=>r.2 | none=>z) w:=by
 obtain⟨es,cl,hb,he,-⟩:=h;have hf:=fx k es.toList l 0 he
 cases Nk:dG k l 0 with
 | none =>
  rw[Nk]at hf;simp[Instr.lookup,run_underlying hT,MapKept.run_getObj_map hb,MapKept.run_checkKey (k:=.int .i64 k) hk rfl,MapKept.run_findKey hk hf,hz,Result.andThen]
 | some r =>
  obtain⟨i,v⟩:=r;rw[Nk]at hf;simp[Instr.lookup,run_underlying hT,MapKept.run_getObj_map hb,MapKept.run_checkKey (k:=.int .i64 k) hk rfl,MapKept.run_findKey hk hf,Result.andThen]
theorem jQ(k:Int):∀(l:List Int) (i:Nat),(k∈l->∃j,dG k (eh l) i=some (j,.bool true))/\(k ∉ l->dG k (eh l) i=none)
 | [],_=>⟨λh=>(by cases h),λ_=>rfl⟩
 | x :: l,i=>by
  have h1:=(jQ k l (i+1)).1;have h2:=(jQ k l (i+1)).2
  have e:dG k (eh (x :: l)) i=if x=k then some (i,.bool true) else dG k (eh l) (i+1):=rfl
  rw[e];by_cases hx:x=k
  .rw[if_pos hx];exact⟨λ_=>⟨i,rfl⟩,λhn=>absurd (by rw[hx]; simp) hn⟩
  .rw[if_neg hx];exact⟨λhm=>h1 ((List.mem_cons.1 hm).resolve_left (λq=>hx q.symm)),λhn=>h2 (λq=>hn (List.mem_cons_of_mem _ q))⟩
section
variable (w0 w:World) (n D T:Nat) (t:Tg) (Y:Nat->Prop)
theorem qs(tag:Int)(h:bR w0 n D T t Y w) : Calls Tryz.prog 33 #[.pointer (some ⟨T,0,none⟩),.int .i64 tag] w λe w'=>e=.returned (.bool (decide (tag∈t.done)))/\w'=w:=by
 obtain⟨X,m,ki,tb,lo,hy⟩:=h;have c0:=(aG tb.blk tb.ok).1.2.2.2.2.2.2.2.2.2;have hl:=nu (P:=Tryz.prog) Tryz.underlying104 Tryz.underlying3 tb.done tag (z:=.bool false) (by kernel_rfl);obtain⟨B,hB⟩:=Nm (decide (tag∈t.done))
 have hlk:(Instr.lookup 104 (.map (some m.N)) (.int .i64 tag) false).run Tryz.prog w=.ok (.bool B) w:=by
  rw[hl,<-hB];by_cases hm:tag∈t.done
  .obtain⟨j,e⟩:=(jQ tag t.done 0).1 hm;rw[e,decide_eq_true hm]
  .rw[(jQ tag t.done 0).2 hm,decide_eq_false hm]
 rw[hB];clear ki tb lo hy hl hB;go_enter Tryz.func33,Tryz.ntmps33
 go_wp2;go_ret;exact⟨rfl,rfl⟩
end
section
variable {P:Program} {ops:Array Oper} {rest:List Oper} {o:Oper} {a:Act} {w:World} {Q:Exit->Act->World->Prop}
theorem range_any(hg:o.guard=none)(m:Operand)(t:TypeId)(Jt:o.op=Op.range t m)(k e:TypeId)(ht:P.underlying t=some (.map k e))(b:Nat)(es:Array MapEntry)(clock:Nat)(hm:a.eval m=.map (some b))(hb:w.heap[b]?=some (.map es clock))(h:wpList P ops Q rest (a.put o.dst (.pointer (some ⟨w.heap.size,0,none⟩))) (w.alloc (.mapIter (some b) clock #[] clock))):wpList P ops Q (o :: rest) a w:=by
 refine wpList_plain hg λK' Is=>?_;unfold Oper.wp;simp[execOp,Jt,hm,run_range_map w t k e b es clock ht hb,Result.andThen];exact Is _ _ h
end
section
variable (w0 w:World) (n D T:Nat) (t:Tg) (Y:Nat->Prop)
end
