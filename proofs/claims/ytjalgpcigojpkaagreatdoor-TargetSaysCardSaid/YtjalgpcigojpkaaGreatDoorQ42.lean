import Derived.Deep.RegionHeldLaw
import Derived.Test.YtjalgpcigojpkaaGreatDoorQ41
set_option maxRecDepth 99999
set_option maxHeartbeats 99999999
namespace Go.Proofs.YtjalgpcigojpkaaGreatDoor
section
open Go.RowKit Go.Sort
section
variable {Y:Nat->Prop} {w:World} {M:Nat} {m:Dm} {t:Tg}
variable {n:Nat} {S:aw->Prop} {B:Int}
def wZ (w5:World)(G:Nat)(g:Gp)(d:ByteArray)(p ok:Value)(wx:World):Prop:=∃C,p=.pointer (some ⟨C,0,none⟩)/\ok=.bool true/\PG w5 G g wx/\wx.cell? ⟨C,2,none⟩=some (.string d)/\w5.heap.size<=C
theorem mS{S:Nat->Prop}{x w:World}{C:Nat}(h:ac S x w)(hC:S C)(v0 v1 v2:Value):ac S x (((w.setCell ⟨C,0,none⟩ v0).setCell ⟨C,1,none⟩ v1).setCell ⟨C,2,none⟩ v2):=((h.setCell hC v0).setCell hC v1).setCell hC v2
theorem cell_lt{w:World}{C o:Nat}{v:Value}(h:w.cell? ⟨C,o,none⟩=some v):C<w.heap.size:=by
 rcases Nat.lt_or_ge C w.heap.size with q | q
 .exact q
 .simp[World.cell?,Array.getElem?_eq_none q]at h
theorem Ed{a b:ByteArray}(h:a≠b):(a.toList == b.toList)=false:=by simp only[beq_eq_false_iff_ne,ne_eq,ByteArray.toList_eq];intro e;exact h (ByteArray.ext (Array.toList_inj.1 e))
theorem wZ.one{w5 w6:World}{G:Nat}{g:Gp}{d:ByteArray}{x y:Value}{T:TypeId}(f:PG w5.drew G g w6):wZ w5 G g d (.pointer (some ⟨w6.heap.size,0,none⟩)) (.bool true) (w6.alloc (.cells #[x,y,.string d] T)) :=
 ⟨w6.heap.size,rfl,rfl,(PG.of_drew f).over (ay w6 _),(cells3 (heap_alloc_new w6 _)).1.2.2,f.keeps.size⟩
theorem wZ.two{w5 w6:World}{G:Nat}{g:Gp}{d:ByteArray}{x y z0 z1 z2:Value}{T:TypeId}(lG:G<w5.heap.size)(f:PG (w5.alloc (.cells #[z0,z1,z2] T)).drew G g w6):wZ w5 G g d (.pointer (some ⟨w5.heap.size,0,none⟩)) (.bool true) (((w6.setCell ⟨w5.heap.size,0,none⟩ x).setCell ⟨w5.heap.size,1,none⟩ y).setCell ⟨w5.heap.size,2,none⟩ (.string d)):=by
 have hC:w6.heap[w5.heap.size]?=some (.cells #[z0,z1,z2] T (0,0)):=(f.keeps.block _ (λe=>by have e:w5.heap.size=G:=e; omega) (by show w5.heap.size<(w5.alloc _).heap.size; simp)).trans (heap_alloc_new w5 _);have kc:=mS (C:=w5.heap.size) (ac.refl (·=w5.heap.size) w6) rfl x y (.string d);have k6:ac (·=G) w5 w6:=((ac.refl _ _).alloc _).drew.trans f.keeps
 exact⟨w5.heap.size,rfl,rfl,⟨⟨kc.os.trans k6.os,kc.tape.trans k6.tape,kc.output.trans k6.output,Nat.le_trans k6.size kc.size,λb hb hl=>(kc.block b (λe=>by have e:b=w5.heap.size:=e; omega) (Nat.lt_of_lt_of_le hl k6.size)).trans (k6.block b hb hl)⟩,f.ok,(kc.block _ (λe=>by have e:G=w5.heap.size:=e; omega) (Nat.lt_of_lt_of_le lG k6.size)).trans f.hG⟩,
  (cells3 (block_setCell (o:=2) (block_setCell (o:=1) (block_setCell (o:=0) hC x) y) (.string d))).1.2.2,Nat.le_refl _⟩
def G9 (Y:Nat->Prop)(w:World)(M:Nat)(t:Tg)(c:bG)(x:Tg × gB)(wx:World):Prop :=
 ∃m6 u,bO (bL Y w wx) wx M m6 u/\x=u.doWrite c/\ac Y w wx/\wx.heap[w.heap.size]?=some (.cells (kU c) 39 (0,0))/\u.fly=t.fly/\u.wait=t.wait/\u.tag=t.tag/\u.num=t.num/\u.k=t.k
def Ha (Y:Nat->Prop)(w:World)(M:Nat)(c:bG)(u:Tg)(dl:List Int)(i:Value)(wr:World):Prop :=
 ∃(l:Nat) (m':Dm),l<=3/\i=.int .i64 l/\m'.dl=dl/\bO (bL Y w wr) wr M m' { u with num:=u.num+1,tag:=u.tag+1,fly:=u.fly ++ [u.msg c 0,u.msg c 1,u.msg c 2].take l }/\ac Y w wr/\wr.heap[w.heap.size]?=some (.cells (kU c) 39 (0,0))
theorem wN(c:bG)(h:bO Y w M m t)(ti:TI n S B t)(hB:B+2<1000000000000000)(hs:c.data.size<=9223372036854775807/\c.want.size<=9223372036854775807)(h0:aB c=0)(hb:t.b.get c.who=[])(ho:7<=c.op) : Calls Tryz.prog 10 #[.pointer (some ⟨M,0,none⟩),eX c] w λe w'=>e=.returned (zQ (t.ask n c).2)/\dS Y w M (t.ask n c).1 w':=by
 obtain⟨i1,Ni,L2,hi2,Js⟩:=info_parts Tryz.infoMsg;obtain⟨i2,hj0,Lm,MV,hj3⟩:=info_parts Tryz.infoDW;have CK:=(dR h0).1;have AT:=Hx ((dR h0).2.1 ho);have GZ:=ti.good;have hw:=CK.who;have ho9:=CK.op.2;obtain⟨P,hP⟩:=Nm (ce t.k.s c.who (decide (c.op≠7)));obtain⟨g,hg⟩:=Nm (t.g.read t.k.ep c.at'.toNat);obtain⟨d,hd⟩:=Nm ((t.g.readC t.k.ep c.at'.toNat).d);have BD:=Hx (zN ti h0 hb ho hP hg hd)
 have PM:=Hs (eD t.k.s c.who (decide (7<c.op))=P) (by rw[<-hP,iL t.k.s GZ,show decide (7<c.op)=decide (c.op≠7) from by by_cases e:c.op=7<;>simp[e]; omega])
 have HG:=Hx hg;have HD:=Hx hd;have EP:=Hx ti.e1;have RDY:=Hs (t.ready.g=t.g) (congrArg Tg.g ti.ready);have QI2:=Hs (t.isReady=decide (2<=(t.g.mem t.k.ep).length)) ti.isReady;have BN:=Hs ((0<=t.num/\t.num<=B)/\(0<=t.tag/\t.tag<=B)/\t.fly.length<=40/\t.wait.length<=6) (⟨ti.n0,ti.t0,ti.fl,ti.wl⟩);have H:=Hx h;have HL:=Hx (h.own_lt M (.inl rfl));have RC:=Hs (∀wx,Calls Tryz.prog 51 #[.agg #[.int .i64 c.op,.int .i64 c.who,.int .i64 c.key,.int .i64 c.new,.int .i64 c.typ,.int .i64 c.at',.bool c.stays,.string c.data,.string c.want]] wx (λe w'=>e=.returned (.int .i64 0)/\Below wx.heap.size wx w')) (λwx=>h0▸jJ c wx hs);clear h CK GZ hP hg hd;go_enter Tryz.func10,Tryz.ntmps10
 go_upto_region 1 with fail;obtain⟨wb,Iz⟩:=Nn (w.alloc (.cells #[.int .i64 c.op,.int .i64 c.who,.int .i64 c.key,.int .i64 c.new,.int .i64 c.typ,.int .i64 c.at',.bool c.stays,.string c.data,.string c.want] 39));rw[<-Iz];have B1:=Hs (Below w.heap.size w wb) (Iz▸ay w _);have X1:=Hs (wb.heap[w.heap.size]?=some (.cells (kU c) 39 (0,0))) (Iz▸heap_alloc_new w _);obtain⟨q0,q1,q2,q3,q4,q5,q6,q7,q8⟩:=eR X1.out;clear Iz;go_wp2_with fail;refine(RC.out _).mono ?_;rintro e w2 ⟨rfl,b2⟩;have B2:=Hx (B1.out.trans (b2.mono B1.out.size));have X2:=Hx ((b2.block _ (Gl X1.out)).trans X1.out);have H2:=Hx (H.out.over B2.out);clear b2 B1 X1 q0 q1 q2 q3 q4 q5 q6 q7 q8 RC
 have TAKE:=Hs (Calls Tryz.prog 52 #[.pointer (some ⟨M,7,none⟩),.int .i64 c.who] w2.drew (λe w'=>e=.returned (.int .i64 0)/\(∃m',bO (bL Y w2.drew w') w' M m' t)/\ac (·=M) w2.drew w')) (by
  refine(kT c.who hw (H2.out.over (Below.refl _ _).drew)).mono ?_;rintro e w' ⟨rfl,⟨m',h',-⟩,k'⟩;rw[hb]at h' ⊢
  have e:({ t with b:=t.b.set c.who ([]:List Int).tail }:Tg)=t:=by
   have e2:t.b.set c.who []=t.b:=by rw[<-hb]; exact Bl.set_get _ _
   rw[show([]:List Int).tail=[] from rfl,e2]
  exact⟨rfl,⟨m',e▸h'⟩,k'⟩)
 have S0:=Hs (w2.drew.cell? ⟨w.heap.size,1,none⟩=some (.int .i64 c.who)) ((eR X2.out).2.1);have S1:=Hs (∀w',ac (·=M) w2.drew w'->w'.heap[w.heap.size]?=some (.cells (kU c) 39 (0,0))) (λw' k=>(k.block _ (λe=>by have:=HL.out; omega) (Gl X2.out)).trans X2.out);have S2:=Hs (∀w',ac (·=M) w2.drew w'->w'.cell? ⟨w.heap.size,1,none⟩=some (.int .i64 c.who)) (λw' k=>(eR (S1.out w' k)).2.1);go_wp2
 go_region_held3 (λw'=>w'.cell? ⟨w.heap.size,1,none⟩=some (.int .i64 c.who))
  (first|with_reducible assumption | with_reducible exact S0.out | with_reducible exact S2.out _ (by with_reducible assumption))
  (first
   | (with_reducible refine TAKE.out.mono ?_; rintro e w3 ⟨rfl,⟨m3,h3⟩,k3⟩))
 rename_i dT;clear dT;have k3':ac (·=M) w2 w3:=(ac.refl _ _).drew.trans k3;have H3:=Hs (bO (bL Y w w3) w3 M m3 t) (h3.mono λb e=>e.imp id λe=>⟨Nat.le_trans B2.out.size e.1,e.2⟩);have K3:=Hs (ac Y w w3) ((ac.of_below B2.out).trans (k3'.mono λb e=>e▸H.out.own M (.inl rfl)));have X3:=Hx (S1.out w3 k3);clear k3 k3' h3 S0 S1 S2 TAKE H2 X2 B2
 have MAY:=Hs (Calls Tryz.prog 56 #[.agg #[.int .i64 t.k.s.gen,.slice m3.sa t.k.s.regs.length m3.sc,.int .i64 t.k.s.typ,.int .i64 t.k.s.holder,.bool t.k.s.stays],.int .i64 c.who,.bool (decide (7<c.op))] w3.drew (λe w'=>e=.returned (.bool P)/\Below w3.drew.heap.size w3.drew w')) (by
  rw[<-PM.out]
  exact jh t.k.s m3.sa m3.sc c.who (decide (7<c.op)) w3.drew ((H3.out.str.str H3.out.len).below (Below.refl _ _).drew))
 have S1:=Hs (∀w',Below w3.drew.heap.size w3.drew w'->w'.cell? ⟨M,0,none⟩=some (.int .i64 t.k.s.gen)/\w'.cell? ⟨M,1,none⟩=some (.slice m3.sa t.k.s.regs.length m3.sc)/\w'.cell? ⟨M,2,none⟩=some (.int .i64 t.k.s.typ)/\w'.cell? ⟨M,3,none⟩=some (.int .i64 t.k.s.holder)/\w'.cell? ⟨M,4,none⟩=some (.bool t.k.s.stays)/\w'.cell? ⟨w.heap.size,0,none⟩=some (.int .i64 c.op)/\w'.cell? ⟨w.heap.size,1,none⟩=some (.int .i64 c.who)) (λw' k=>by
  have hM:=(k.block M (H3.out.own_lt M (.inl rfl))).trans H3.out.blk;have hX:=(k.block w.heap.size (Gl X3.out)).trans X3.out;obtain⟨⟨c0,c1,c2,c3,c4,-⟩,-⟩:=aY hM;obtain⟨q0,q1,-⟩:=eR hX
  exact⟨c0,c1,c2,c3,c4,q0,q1⟩)
 obtain⟨q0,-⟩:=eR X3.out
 have ho6:¬ c.op<=6:=by omega
 clear hs hb h0 hw ti;go_wp2
 go_region_held3 (λw'=>w'.cell? ⟨M,0,none⟩=some (.int .i64 t.k.s.gen)/\w'.cell? ⟨M,1,none⟩=some (.slice m3.sa t.k.s.regs.length m3.sc)/\w'.cell? ⟨M,2,none⟩=some (.int .i64 t.k.s.typ)/\w'.cell? ⟨M,3,none⟩=some (.int .i64 t.k.s.holder)/\w'.cell? ⟨M,4,none⟩=some (.bool t.k.s.stays)/\w'.cell? ⟨w.heap.size,0,none⟩=some (.int .i64 c.op)/\w'.cell? ⟨w.heap.size,1,none⟩=some (.int .i64 c.who))
  (first|with_reducible assumption | with_reducible exact S1.out _ (Below.refl _ _) | with_reducible exact S1.out _ (by with_reducible assumption))
  (first
   | (with_reducible refine MAY.out.mono ?_; rintro e w4 ⟨rfl,b4⟩))
 rename_i dT;clear dT q0;have b4':Below w3.heap.size w3 w4:=(Below.refl _ _).drew.trans b4;have H4:=Hs (bO (bL Y w w4) w4 M m3 t) ((H3.out.over b4').mono λb e=>e.imp id λe=>⟨e.1,Nat.lt_of_lt_of_le e.2 b4'.size⟩);have K4:=Hs (ac Y w w4) (K3.out.trans (ac.of_below b4'));have X4:=Hx ((b4'.block _ (Gl X3.out)).trans X3.out);clear b4 b4' H3 K3 X3 MAY S1;cases P
 .have E:=Hx (BD.out.1 rfl);go_wp2;exact bodyPost_ret (v:=.tuple #[.string ⟨#[]⟩,.int .i64 0,.int .i64 0,.int .i64 4]) (by simp[results,Tryz.results10,go_sem]) rfl ⟨by rw[E.out]; rfl,by rw[E.out]; exact dS.of H4.out K4.out⟩
 obtain⟨R,hR⟩:=Nm t.isReady;have BD1:=Hx (hR▸BD.out.2.1 rfl);have BD2:=Hx (hR▸BD.out.2.2 rfl)
 have RC:=Hs (Calls Tryz.prog 57 #[.pointer (some ⟨M,0,none⟩)] w4 (λe w'=>e=.returned (.int .i64 (if R then 0 else 7))/\PG w4 m3.G t.g w')) (by
  have:=kQ H4.out (by have:=EP.out; omega);rw[hR,RDY.out]at this
  exact this)
 have HR:=Hx hR;clear hR BD;go_wp2_with fail;refine RC.out.mono ?_;rintro e w5 ⟨rfl,f5⟩;have H5:=Hs (bO (bL Y w w5) w5 M m3 t) ((H4.out.setG f5).mono λb e=>e.imp id λe=>⟨e.1,Nat.lt_of_lt_of_le e.2 f5.keeps.size⟩);have K5:=Hs (ac Y w w5) (K4.out.more (f5.keeps.mono λb e=>e▸H4.out.own _ (.inr (.inl rfl))));have XG:=cR X4.out H4.out.grp (by decide);have X5:=Hx ((f5.keeps.block _ (λe=>XG e) (Gl X4.out)).trans X4.out);clear f5 RC H4 K4 X4 XG;cases R
 .have E:=Hx (BD1.out rfl);simp only[Bool.false_eq_true,if_false];go_wp2;exact bodyPost_ret (v:=.tuple #[.string ⟨#[]⟩,.int .i64 0,.int .i64 0,.int .i64 7]) (by simp[results,Tryz.results10,go_sem]) rfl ⟨by rw[E.out]; rfl,by rw[E.out]; exact dS.of H5.out K5.out⟩
 simp only[if_true];replace BD2:=Hx (BD2.out rfl);clear BD1;obtain⟨q0,-⟩:=eR X5.out;obtain⟨Q,hQ⟩:=Nm (c.op != 8);have HQ:=Hx hQ;go_upto_if 102 with fail;go_cut [102] (λ_ wx=>G9 Y w M t c (t.ask n c) wx)
 case first=>as_aux_lemma =>
  cases Q
  .have h8:c.op=8:=by have:=HQ.out; simpa using this
   have E:=Hx (BD2.out.2.1 h8);clear h8;go_wp2;go_meet;exact⟨m3,t,H5.out,E.out,K5.out,X5.out,rfl,rfl,rfl,rfl,rfl⟩
  have h8:c.op≠8:=by have:=HQ.out; simpa using this
  have H8n:=Hx h8;have LG:=Hs (m3.G<w5.heap.size/\M<w5.heap.size/\w.heap.size<w5.heap.size/\M≠m3.G/\w.heap.size≠m3.G) (⟨H5.out.own_lt _ (.inr (.inl rfl)),H5.out.own_lt M (.inl rfl),(Gl X5.out),H5.out.MG,cR X5.out H5.out.grp (by decide)⟩)
  have RD:=Hs (∀wx,wx.heap[m3.G]?=some (.cells t.g.arr 97 (0,0))->Calls Tryz.prog 58 #[.pointer (some ⟨m3.G,0,none⟩),.int .i64 t.k.ep,.int .i64 c.at'] wx (λe w'=>e=.returned (.tuple #[.agg #[.int .i64 (t.g.readC t.k.ep c.at'.toNat).e,.int .i64 (t.g.readC t.k.ep c.at'.toNat).n,.string d],.bool true])/\PG wx m3.G g w')) (λwx hx=>by
   have:=vA t.g t.k.ep c.at'.toNat m3.G wx H5.out.ok (by have:=AT.out; omega) hx;rw[Int.toNat_of_nonneg AT.out.1,HG.out,<-QI2.out,HR.out]at this;rw[<-HD.out]
   exact this)
  have RA:=Hx (RD.out w5.drew H5.out.grp);have RB:=Hx (λo=>RD.out (w5.alloc o).drew ((Below.heap_alloc _ _ _ LG.out.1).trans H5.out.grp));have KA:=Hs (∀w',PG w5.drew m3.G g w'->ac (λb=>b=m3.G\/w5.heap.size<=b) w5 w') (λw' f=>(ac.refl _ _).drew.trans (f.keeps.mono λb e=>.inl e));have KB:=Hs (∀o w',PG (w5.alloc o).drew m3.G g w'->ac (λb=>b=m3.G\/w5.heap.size<=b) w5 w') (λo w' f=>((ac.refl _ _).alloc _).drew.trans (f.keeps.mono λb e=>.inl e))
  have KEEP:=Hs (∀w',ac (λb=>b=m3.G\/w5.heap.size<=b) w5 w'->ac (λb=>b=m3.G\/w5.heap.size<=b) w5 w'/\w'.cell? ⟨M,5,none⟩=some (.int .i64 t.k.ep)/\w'.cell? ⟨M,6,none⟩=some (.pointer (some ⟨m3.G,0,none⟩))/\w'.cell? ⟨w.heap.size,5,none⟩=some (.int .i64 c.at')) (λw' k=>by
   have hM:=(k.block M (by have:=LG.out; omega) LG.out.2.1).trans H5.out.blk;have hX:=(k.block w.heap.size (by have:=LG.out; omega) LG.out.2.2.1).trans X5.out;obtain⟨⟨-,-,-,-,-,c5,c6,-⟩,-⟩:=aY hM
   exact⟨k,c5,c6,(eR hX).2.2.2.2.2.1⟩)
  clear RD;go_upto_region 29 with fail;go_cut [18,19] (λp ok wx=>wZ w5 m3.G g d p ok wx)
  case first=>as_aux_lemma =>
   go_region_held3 (λw'=>ac (λb=>b=m3.G\/w5.heap.size<=b) w5 w'/\w'.cell? ⟨M,5,none⟩=some (.int .i64 t.k.ep)/\w'.cell? ⟨M,6,none⟩=some (.pointer (some ⟨m3.G,0,none⟩))/\w'.cell? ⟨w.heap.size,5,none⟩=some (.int .i64 c.at'))
    (first|(refine KEEP.out _ ?_; first | exact(ac.refl _ _).drew | with_reducible exact KA.out _ (by with_reducible assumption) | with_reducible exact KB.out _ _ (by with_reducible assumption) | exact ac.alloc (KA.out _ (by with_reducible assumption)) _ | exact mS (KB.out _ _ (by with_reducible assumption)) (.inr (Nat.le_refl _)) _ _ _ | exact ac.alloc (And.left (by assumption)) _))
    (first
     | ((with_reducible refine RA.out.mono ?_); rintro e w6 ⟨rfl,f6⟩)
     | ((with_reducible refine(RB.out _).mono ?_); rintro e w6 ⟨rfl,f6⟩; obtain⟨⟨z0,z1,z2⟩,y0,y1,y2⟩:=cells3 ((f6.keeps.block _ (λe=>by have:=LG.out.1; have e:w5.heap.size=m3.G:=e; omega) (by show w5.heap.size<(w5.alloc _).heap.size; simp)).trans (heap_alloc_new _ _))))
   .go_wp2;go_meet;exact wZ.one f6
   .go_wp2;go_meet;exact wZ.two LG.out.1 f6
  case rest =>
  obtain⟨C,rfl,rfl,f6,cc,lC⟩:=hcut
  obtain⟨w6,rfl⟩:∃w6:World,w6=wc:=⟨_,rfl⟩
  have H6:=Hs (bO (bL Y w w6) w6 M m3 { t with g:=g }) ((H5.out.setG f6).mono λb e=>e.imp id λe=>⟨e.1,Nat.lt_of_lt_of_le e.2 f6.keeps.size⟩);have K6:=Hs (ac Y w w6) (K5.out.more (f6.keeps.mono λb e=>e▸H5.out.own _ (.inr (.inl rfl))));have X6:=Hx ((f6.keeps.block _ (λe=>LG.out.2.2.2.2 e) LG.out.2.2.1).trans X5.out);have CC:=Hx cc;obtain⟨Z,hZ⟩:=Nm (t.busy c.at')
  have FLS:=Hs (Calls Tryz.prog 59 #[.pointer (some ⟨M,0,none⟩),.int .i64 c.at'] w6 (λe w'=>e=.returned (.bool Z)/\Below w6.heap.size w6 w')) (by
   have:=wJ c.at' H6.out (by have:=BN.out.2.2.1; show t.fly.length<=1000; omega);rw[show({ t with g:=g }:Tg).busy c.at'=Z from hZ]at this
   exact this)
  have CL:=Hs (C<w6.heap.size) (cell_lt cc);have HZ:=Hx hZ;obtain⟨q0,-,-,-,-,q5,-⟩:=eR X6.out;clear f6 cc lC KA KB KEEP RA RB H5 K5 X5 LG hZ hQ;by_cases h7:c.op=7
  .have q:(c.op == 7)=true:=by simp[h7]
   have E:=Hx (BD2.out.1 h7);have cc:=CC.out;clear h7;go_wp2;exact bodyPost_ret (v:=.tuple #[.string d,.int .i64 0,.int .i64 0,.int .i64 0]) (by simp[results,Tryz.results10,go_sem]) rfl ⟨by rw[E.out],by rw[E.out]; exact dS.of H6.out K6.out⟩
  have q:(c.op == 7)=false:=by simp[h7]
  have BD9:=Hx (BD2.out.2.2 (by omega));clear h7 h8;go_wp2_with fail;refine FLS.out.mono ?_;rintro e w7 ⟨rfl,b7⟩;have H7:=Hs (bO (bL Y w w7) w7 M m3 { t with g:=g }) ((H6.out.over b7).mono λb e=>e.imp id λe=>⟨e.1,Nat.lt_of_lt_of_le e.2 b7.size⟩);have K7:=Hs (ac Y w w7) (K6.out.trans (ac.of_below b7));have X7:=Hx ((b7.block _ (Gl X6.out)).trans X6.out);have cc:=(b7.cell (p:=⟨C,2,none⟩) CL.out).trans CC.out;clear b7 FLS H6 K6 X6 CC CL q q0 q5;cases Z
  rotate_left 1
  .have E:=Hx (BD9.out.1 HZ.out);go_wp2;exact bodyPost_ret (v:=.tuple #[.string ⟨#[]⟩,.int .i64 0,.int .i64 0,.int .i64 7]) (by simp[results,Tryz.results10,go_sem]) rfl ⟨by rw[E.out]; rfl,by rw[E.out]; exact dS.of H7.out K7.out⟩
  obtain⟨-,-,-,-,-,-,-,-,q8⟩:=eR X7.out;by_cases hdw:d=c.want
  .have q:(d.toList == c.want.toList)=true:=by simp[hdw]
   have E:=Hx (BD9.out.2.2 HZ.out hdw);clear hdw;go_wp2;go_meet;exact⟨m3,{ t with g:=g },H7.out,E.out,K7.out,X7.out,rfl,rfl,rfl,rfl,rfl⟩
  .have q:(d.toList == c.want.toList)=false:=Ed hdw;have E:=Hx (BD9.out.2.1 HZ.out hdw);clear hdw;go_wp2;exact bodyPost_ret (v:=.tuple #[.string ⟨#[]⟩,.int .i64 0,.int .i64 0,.int .i64 9]) (by simp[results,Tryz.results10,go_sem]) rfl ⟨by rw[E.out]; rfl,by rw[E.out]; exact dS.of H7.out K7.out⟩
 case rest =>
 obtain⟨m6,u,h7,e7,k7,x7,y1,y2,y3,y4,y5⟩:=hcut
 obtain⟨w7,rfl⟩:∃w7:World,w7=wc:=⟨_,rfl⟩
 have H7:=Hx h7;have K7:=Hx k7;have X7:=Hx x7;have BU:=Hs ((0<=u.num/\u.num<=B)/\(0<=u.tag/\u.tag<=B)/\u.fly.length<=40/\u.wait.length<=6) (by rw[y1,y2,y3,y4]; exact BN.out);have WD:=Hx (xX u c);obtain⟨⟨-,-,-,-,-,-,-,c7,c8,c9,c10,-⟩,hf⟩:=aY h7.blk;have f11:=hf 11;have f12:=hf 12;have E7:=Hx e7;clear h7 e7 k7 x7 y1 y2 y3 y4 y5 hf q0 hQ HQ BD2 H5 K5 X5;by_cases h6:u.wait.length=6
 .have q:((u.wait.length:Int) == 6)=true:=by simp[h6]
  have E:=Hx (E7.out.trans (WD.out.1 (.inl h6)));clear h6;go_wp2;exact bodyPost_ret (v:=.tuple #[.string ⟨#[]⟩,.int .i64 0,.int .i64 0,.int .i64 6]) (by simp[results,Tryz.results10,go_sem]) rfl ⟨by rw[E.out]; rfl,by rw[E.out]; exact dS.of H7.out K7.out⟩
 have q:((u.wait.length:Int) == 6)=false:=by simp; omega
 by_cases h40:40<u.fly.length+3
 .have q2:(40:Int)<(u.fly.length:Int)+3:=by omega
  have E:=Hx (E7.out.trans (WD.out.1 (.inr h40)));have b40:=BU.out.2.2.1;clear h40 h6;go_wp2;exact bodyPost_ret (v:=.tuple #[.string ⟨#[]⟩,.int .i64 0,.int .i64 0,.int .i64 6]) (by simp[results,Tryz.results10,go_sem]) rfl ⟨by rw[E.out]; rfl,by rw[E.out]; exact dS.of H7.out K7.out⟩
 have q2:¬ (40:Int)<(u.fly.length:Int)+3:=by omega
 have E:=Hx (E7.out.trans (WD.out.2 λe=>e.elim h6 h40));have q3:IntKind.i64.wrap (u.num+1)=u.num+1:=IntWalk.i64_in _ (by have:=BU.out; omega);have q4:IntKind.i64.wrap (u.tag+1)=u.tag+1:=IntWalk.i64_in _ (by have:=BU.out; omega);have LQ:=Hs (u.fly.length<=37/\u.wait.length<=5) (by have:=BU.out; omega);clear h6 h40 WD E7;go_upto_region 43 with fail;obtain⟨w8,IU⟩:=Nn ((w7.setCell ⟨M,11,none⟩ (.int .i64 (u.num+1))).setCell ⟨M,12,none⟩ (.int .i64 (u.tag+1)));rw[<-IU];have k8:ac (·=M) w7 w8:=IU▸ac.setCell (S:=(·=M)) (p:=⟨M,12,none⟩) (ac.setCell (S:=(·=M)) (p:=⟨M,11,none⟩) (ac.refl _ _) rfl _) rfl _;have K8:=Hs (ac Y w w8) (K7.out.more (k8.mono λb e=>e▸H7.out.own M (.inl rfl)));have X8:=Hx ((k8.block _ (λe=>cR X7.out H7.out.blk (by decide) e) (Gl X7.out)).trans X7.out)
 have H8:=Hs (bO (bL Y w w8) w8 M m6 { u with num:=u.num+1,tag:=u.tag+1 }) (  H7.out.turn k8 (IU▸block_setCell (o:=12) (block_setCell (o:=11) H7.out.blk _) _) (λb e=>e.imp id λe=>⟨e.1,Nat.lt_of_lt_of_le e.2 k8.size⟩) rfl rfl (λ_ e=>e) H7.out.len
   (H7.out.str.to k8.size λb e hb=>⟨k8.block b (λq=>e.2 (.inl q)) hb,e.1.imp id λe=>⟨e.1,Nat.lt_of_lt_of_le e.2 k8.size⟩,e.2⟩) (λk=>(H7.out.box k).to k8.size λb e hb=>⟨k8.block b (λq=>e.2 (.inl q)) hb,e.1.imp id λe=>⟨e.1,Nat.lt_of_lt_of_le e.2 k8.size⟩,e.2⟩)
   (.inl ⟨rfl,rfl,rfl⟩) ⟨rfl,rfl,rfl⟩ ⟨rfl,rfl,rfl,rfl⟩ (by show u.tag<=u.tag+1; omega))
 have CN:=Hs ((m6.dl.length:Int)+u.wait.length+1<=u.tag+1) (by have:=H7.out.cnt; omega);clear IU k8 H7 K7 X7 c7 c8 c9 c10 f11 f12 q q2 q3 q4;go_wp2;go_loopw [21] (λi wr=>Ha Y w M c u m6.dl i wr) (λi _=>3 - (RowKit.intOf i).toNat)
 case atStart=>exact⟨0,m6,by omega,rfl,rfl,by simpa using H8.out,K8.out,X8.out⟩
 case round =>
  obtain⟨l,m9,hl,rfl,el,h9,k9,x9⟩:=hrel;have H9:=Hx h9;have K9:=Hx k9;have X9:=Hx x9;have EL:=Hx el;obtain⟨LF,hLF⟩:=Nm (u.fly ++ [u.msg c 0,u.msg c 1,u.msg c 2].take l);rw[hLF]at H9
  have lf:LF.length<=40:=by rw[<-hLF,List.length_append,List.length_take];have:=LQ.out.1;have:min l [u.msg c 0,u.msg c 1,u.msg c 2].length<=3:=Nat.min_le_right _ _;omega
  obtain⟨⟨-,-,-,-,-,c5,-,c7,c8,c9,c10,-⟩,hf⟩:=aY H9.out.blk;replace c5:wr.cell? ⟨M,5,none⟩=some (.int .i64 u.k.ep):=c5;replace c7:wr.cell? ⟨M,11,none⟩=some (.int .i64 (u.num+1)):=c7;replace c8:wr.cell? ⟨M,12,none⟩=some (.int .i64 (u.tag+1)):=c8;replace c9:wr.cell? ⟨M,13,none⟩=some (.slice m9.wa u.wait.length m9.wc):=c9;replace c10:wr.cell? ⟨M,14,none⟩=some (.slice m9.fa LF.length m9.fc):=c10;obtain⟨-,-,-,-,-,b5,-,b7,-⟩:=eR X9.out;have LM:=Hx (H9.out.own_lt M (.inl rfl));clear h9 k9 x9 el hf;by_cases hl3:l<3
  .have XA:=Hs (u.fly ++ [u.msg c 0,u.msg c 1,u.msg c 2].take (l+1)=LF ++ [u.msg c l]) (by
    rw[<-hLF,List.append_assoc]
    rcases (by omega:l=0\/l=1\/l=2) with rfl | rfl | rfl<;>rfl)
   have AT6:=Hs (∀(o:Obj) (w6:World),(wr.drew.alloc o).grownBy w6 (Value.slice m9.fa LF.length m9.fc).ownBlock->w6.cell? ⟨M,14,none⟩=some (.slice m9.fa LF.length m9.fc)/\w6.frozen? ⟨M,14,none⟩=false) (λo w6 hg=>by
    have hb:w6.heap[M]?=wr.heap[M]?:=(hg.block M (by have:=LM.out; simp; omega) (λe=>(H9.out.Mf (gi H9.out.fly e.symm)).1 rfl)).trans (Below.heap_alloc _ _ _ LM.out)
    simp[World.cell?,World.frozen?,hb,H9.out.blk])
   have a2:∀o,(wr.alloc o).cell? ⟨M,14,none⟩=some (.slice m9.fa LF.length m9.fc):=λo=>(World.cell?_alloc_some _ _ _ (by rw[c10]; rfl)).trans c10;have NW:=Hs (∀x∈[Value.int .i64 l,.int .i64 c.at',.int .i64 u.k.ep,.int .i64 (u.num+1),.string c.data,.int .i64 (u.tag+1)],x.oneCell'=true) (jv [u.msg c l])
   have KR:=Hs (∀w',(w'=wr.drew\/(∃o,w'=wr.drew.alloc o)\/(∃o,(wr.drew.alloc o).grownBy w' (Value.slice m9.fa LF.length m9.fc).ownBlock)\/∃o w6 v,(wr.drew.alloc o).grownBy w6 (Value.slice m9.fa LF.length m9.fc).ownBlock/\w'=w6.setCell ⟨M,14,none⟩ v)->w'.cell? ⟨M,5,none⟩=some (.int .i64 u.k.ep)/\w'.cell? ⟨M,11,none⟩=some (.int .i64 (u.num+1))/\w'.cell? ⟨M,12,none⟩=some (.int .i64 (u.tag+1))/\w'.cell? ⟨w.heap.size,5,none⟩=some (.int .i64 c.at')/\w'.cell? ⟨w.heap.size,7,none⟩=some (.string c.data)) (by
    have lX:=(Gl X9.out)
    have key:∀w6:World,w6.heap[M]?=wr.heap[M]?->w6.heap[w.heap.size]?=wr.heap[w.heap.size]?->∀v,(λw':World=>w'.cell? ⟨M,5,none⟩=some (.int .i64 u.k.ep)/\w'.cell? ⟨M,11,none⟩=some (.int .i64 (u.num+1))/\w'.cell? ⟨M,12,none⟩=some (.int .i64 (u.tag+1))/\w'.cell? ⟨w.heap.size,5,none⟩=some (.int .i64 c.at')/\w'.cell? ⟨w.heap.size,7,none⟩=some (.string c.data)) w6/\(λw':World=>w'.cell? ⟨M,5,none⟩=some (.int .i64 u.k.ep)/\w'.cell? ⟨M,11,none⟩=some (.int .i64 (u.num+1))/\w'.cell? ⟨M,12,none⟩=some (.int .i64 (u.tag+1))/\w'.cell? ⟨w.heap.size,5,none⟩=some (.int .i64 c.at')/\w'.cell? ⟨w.heap.size,7,none⟩=some (.string c.data)) (w6.setCell ⟨M,14,none⟩ v):=λw6 e1 e2 v=>by have hM:=e1.trans H9.out.blk;have hX:=e2.trans X9.out;have Jn:=block_setCell (o:=14) hM v;have hX2:(w6.setCell ⟨M,14,none⟩ v).heap[w.heap.size]?=_:=((ac.setCell (S:=(·=M)) (p:=⟨M,14,none⟩) (ac.refl _ w6) rfl v).block _ (λe=>cR X9.out H9.out.blk (by decide) e) (Gl hX)).trans hX;obtain⟨-,-,-,-,-,b5,-,b7,-⟩:=eR hX;obtain⟨-,-,-,-,-,d5,-,d7,-⟩:=eR hX2;exact⟨⟨(cells_at hM (k:=5) rfl).1,(cells_at hM (k:=11) rfl).1,(cells_at hM (k:=12) rfl).1,b5,b7⟩,(cells_at Jn (k:=5) rfl).1,(cells_at Jn (k:=11) rfl).1,(cells_at Jn (k:=12) rfl).1,d5,d7⟩
    have gk:∀o w6,(wr.drew.alloc o).grownBy w6 (Value.slice m9.fa LF.length m9.fc).ownBlock->w6.heap[M]?=wr.heap[M]?/\w6.heap[w.heap.size]?=wr.heap[w.heap.size]?:=λo w6 hg =>
     ⟨(hg.block M (by have:=LM.out; simp; omega) (λe=>(H9.out.Mf (gi H9.out.fly e.symm)).1 rfl)).trans (Below.heap_alloc _ _ _ LM.out),(hg.block w.heap.size (by simp; omega) (λe=>cR X9.out (aM H9.out.fly (gi H9.out.fly e.symm)).choose_spec (by decide) rfl)).trans (Below.heap_alloc _ _ _ lX)⟩
    rintro w' (rfl | ⟨o,rfl⟩ | ⟨o,hg⟩ | ⟨o,w6,v,hg,rfl⟩)
    .exact(key _ rfl rfl undef).1
    .exact(key _ (Below.heap_alloc _ _ _ LM.out) (Below.heap_alloc _ _ _ lX) undef).1
    .exact(key _ (gk o _ hg).1 (gk o _ hg).2 undef).1
    .exact(key _ (gk o _ hg).1 (gk o _ hg).2 v).2)
   clear hLF c9;go_wp2
   have PUSH:=Hx (show ∀(o:Obj) (g6 cap6:Nat) (w6:World),w6.ownsRow 0 124 6 (.slice (some ⟨g6,0,none⟩) (LF.length+1) cap6) (LF.length+1) (cq LF ++ [Value.int .i64 l,.int .i64 c.at',.int .i64 u.k.ep,.int .i64 (u.num+1),.string c.data,.int .i64 (u.tag+1)])->(wr.drew.alloc o).grownBy w6 (Value.slice m9.fa LF.length m9.fc).ownBlock->((Value.slice m9.fa LF.length m9.fc).ownBlock=some g6\/g6=(wr.drew.alloc o).heap.size) ->
     ∃m':Dm,m'.dl=m6.dl/\bO (bL Y w (w6.setCell ⟨M,14,none⟩ (.slice (some ⟨g6,0,none⟩) (LF.length+1) cap6))) (w6.setCell ⟨M,14,none⟩ (.slice (some ⟨g6,0,none⟩) (LF.length+1) cap6)) M m' { u with num:=u.num+1,tag:=u.tag+1,fly:=u.fly ++ [u.msg c 0,u.msg c 1,u.msg c 2].take (l+1) } /\
      ac Y w (w6.setCell ⟨M,14,none⟩ (.slice (some ⟨g6,0,none⟩) (LF.length+1) cap6))/\(w6.setCell ⟨M,14,none⟩ (.slice (some ⟨g6,0,none⟩) (LF.length+1) cap6)).heap[w.heap.size]?=some (.cells (kU c) 39 (0,0)) from λo g6 cap6 w6 ec N6 Iw=>by
    have bb:Below wr.heap.size wr (wr.drew.alloc o):=(Below.refl _ _).drew.alloc (Nat.le_refl _) _;have kw:=uy bb N6
    have lX:=(Gl X9.out)
    obtain⟨d1,d2⟩:=H9.out.pushFly (u.msg c l) kw ec (Iw.imp id λq=>by rw[q]; exact bb.size) rfl;rw[XA.out];have hX:=(kw.block w.heap.size (λe=>cR X9.out (aM H9.out.fly (gi H9.out.fly e)).choose_spec (by decide) rfl) lX).trans X9.out;refine⟨{ m9 with fa:=some ⟨g6,0,none⟩,fc:=cap6 },EL.out,d1.mono λb e=>?_,K9.out.more d2,((ac.setCell (S:=(·=M)) (p:=⟨M,14,none⟩) (ac.refl _ w6) rfl _).block _ (λe=>cR X9.out H9.out.blk (by decide) e) (Gl hX)).trans hX⟩
    exact e.elim (λe=>e.imp id λe=>⟨e.1,Nat.lt_of_lt_of_le e.2 d2.size⟩) λe=>.inr ⟨Nat.le_trans K9.out.size e.1,e.2⟩)
   obtain⟨Z,hZ⟩:∃Z:World->Prop,Z=λw'=>w'.cell? ⟨M,5,none⟩=some (.int .i64 u.k.ep)/\w'.cell? ⟨M,11,none⟩=some (.int .i64 (u.num+1))/\w'.cell? ⟨M,12,none⟩=some (.int .i64 (u.tag+1))/\w'.cell? ⟨w.heap.size,5,none⟩=some (.int .i64 c.at')/\w'.cell? ⟨w.heap.size,7,none⟩=some (.string c.data):=⟨_,rfl⟩
   have KZ:=Hx (λw' h=>(show Z w' from hZ▸KR.out w' h));have Z4:=Hs (∀w',Z w'->w'.cell? ⟨M,5,none⟩=some (.int .i64 u.k.ep)/\w'.cell? ⟨M,11,none⟩=some (.int .i64 (u.num+1))/\w'.cell? ⟨M,12,none⟩=some (.int .i64 (u.tag+1))/\w'.cell? ⟨w.heap.size,5,none⟩=some (.int .i64 c.at')/\w'.cell? ⟨w.heap.size,7,none⟩=some (.string c.data)) (λw' h=>by rw[hZ]at h; exact h);clear hZ KR;refine wp_region_held_drew (S:=Z) (by kernel_rfl) (KZ.out _ (.inl rfl)) (λdT=>?_);refine wt 0 _ dT ?_;go_simp;refine wt 1 _ dT ?_;go_simp;refine wt 2 _ dT ?_;go_simp;refine wt 3 _ dT ?_;go_simp;refine wt 5 _ dT ?_;go_simp;refine wt 6 _ dT ?_;go_simp;refine wt 7 (.int .i64 c.at') dT ?_ (hy:=Or.inl ⟨by rfl,λw' sT=>by obtain⟨z5,z11,z12,y5,y7⟩:=Z4.out w' sT; go_simp⟩);go_simp;refine wt 8 _ dT ?_;go_simp;refine wt 9 _ dT ?_;go_simp;refine wt 10 _ dT ?_;go_simp;refine wt 11 (.int .i64 u.k.ep) dT ?_ (hy:=Or.inl ⟨by rfl,λw' sT=>by obtain⟨z5,z11,z12,y5,y7⟩:=Z4.out w' sT; go_simp⟩);go_simp;refine wt 12 _ dT ?_;go_simp;refine wt 13 _ dT ?_;go_simp;refine wt 14 _ dT ?_;go_simp;refine wt 15 (.int .i64 (u.num+1)) dT ?_ (hy:=Or.inl ⟨by rfl,λw' sT=>by obtain⟨z5,z11,z12,y5,y7⟩:=Z4.out w' sT; go_simp⟩);go_simp;refine wt 16 _ dT ?_;go_simp;refine wt 17 (.string c.data) dT ?_ (hy:=Or.inl ⟨by rfl,λw' sT=>by obtain⟨z5,z11,z12,y5,y7⟩:=Z4.out w' sT; go_simp⟩);go_simp;refine wt 18 _ dT ?_;go_simp;refine wt 19 _ dT ?_;go_simp;refine wt 20 _ dT ?_;go_simp;refine wt 21 _ dT ?_;go_simp;refine wt 22 (.int .i64 (u.tag+1)) dT ?_ (hy:=Or.inl ⟨by rfl,λw' sT=>by obtain⟨z5,z11,z12,y5,y7⟩:=Z4.out w' sT; go_simp⟩);go_simp;refine wt 23 _ dT ?_;go_simp;refine DV 4 24 (λKx hK=>?_) (λKx hK=>?_)
   .go_simp;have IW:=dT;refine hK.out _ _ IW (λIb=>?_);clear hK Kx IW;refine eB 24 λKx hK=>?_;go_simp;have Je:=KZ.out (wr.drew.alloc (.cells #[.int .i64 l,.int .i64 c.at',.int .i64 u.k.ep,.int .i64 (u.num+1),.string c.data,.int .i64 (u.tag+1)] 124)) (.inr (.inl ⟨_,rfl⟩));refine hK.out _ _ Je (λIa=>?_);clear hK Kx Je;refine eB 25 λKx hK=>?_;refine step_append_lies _ (by rfl) _ _ _ (by rfl) 0 124 i1 _ 6 56 Tryz.underlying76 Ni L2 hi2 Js rfl (by omega) (.slice m9.fa LF.length m9.fc) LF.length (cq LF) (by rfl) (World.ownsRow.alloc H9.out.fly _) ⟨wr.heap.size,0,none⟩ 1 1 [.int .i64 l,.int .i64 c.at',.int .i64 u.k.ep,.int .i64 (u.num+1),.string c.data,.int .i64 (u.tag+1)] (by rfl) (by rfl) (World.news_of_block (heap_alloc_new _ _)) NW.out (by omega) (by unfold maxLen; omega) (by omega) (by omega) _ rfl ?_;intro g6 cap6 w6 IH Ic Jl JG;have kd6:=(AT6.out _ _ Ic).1;have fd6:=(AT6.out _ _ Ic).2;have hk7:=λv=>KZ.out _ (.inr (.inr (.inr ⟨_,_,v,Ic,rfl⟩)));have JD:=KZ.out _ (.inr (.inr (.inl ⟨_,Ic⟩)));refine hK.out _ _ JD (λID=>?_);clear hK Kx JD;refine wt 26 _ ID ?_;go_simp;refine wt 27 _ ID ?_;go_simp;refine eB 28 λKx hK=>?_;go_simp;have KV:=hk7 (.slice (some ⟨g6,0,none⟩) (LF.length+1) cap6);refine hK.out _ _ KV (λJi=>?_);clear hK Kx KV;refine wpAnyH_done (by kernel_rfl) ?_ _;have FIN:=Hx (PUSH.out _ _ _ _ IH Ic Jl);clear IH Ic Jl JG kd6 fd6 hk7 a2;go_wp2;go_roundw
    case rel =>
     obtain⟨m2,a1,a2,a3,a4⟩:=FIN.out;exact⟨l+1,m2,by omega,by go_num,a1,a2,a3,a4⟩
    case measure=>simp[RowKit.intOf]; omega
   .go_simp;have KU:=KZ.out (wr.drew.alloc (.cells #[.int .i64 l,.int .i64 c.at',.int .i64 u.k.ep,.int .i64 (u.num+1),.string c.data,.int .i64 (u.tag+1)] 124)) (.inr (.inl ⟨_,rfl⟩));refine hK.out _ _ KU (λIM=>?_);clear hK Kx KU;refine eB 4 λKx hK=>?_;go_simp;have KT:=IM;refine hK.out _ _ KT (λIt=>?_);clear hK Kx KT;refine eB 25 λKx hK=>?_;refine step_append_lies _ (by rfl) _ _ _ (by rfl) 0 124 i1 _ 6 56 Tryz.underlying76 Ni L2 hi2 Js rfl (by omega) (.slice m9.fa LF.length m9.fc) LF.length (cq LF) (by rfl) (World.ownsRow.alloc H9.out.fly _) ⟨wr.heap.size,0,none⟩ 1 1 [.int .i64 l,.int .i64 c.at',.int .i64 u.k.ep,.int .i64 (u.num+1),.string c.data,.int .i64 (u.tag+1)] (by rfl) (by rfl) (World.news_of_block (heap_alloc_new _ _)) NW.out (by omega) (by unfold maxLen; omega) (by omega) (by omega) _ rfl ?_;intro g6 cap6 w6 IH Ic Jl JG;have kd6:=(AT6.out _ _ Ic).1;have fd6:=(AT6.out _ _ Ic).2;have hk7:=λv=>KZ.out _ (.inr (.inr (.inr ⟨_,_,v,Ic,rfl⟩)));have KQ:=KZ.out _ (.inr (.inr (.inl ⟨_,Ic⟩)));refine hK.out _ _ KQ (λIC=>?_);clear hK Kx KQ;refine wt 26 _ IC ?_;go_simp;refine wt 27 _ IC ?_;go_simp;refine eB 28 λKx hK=>?_;go_simp;have KO:=hk7 (.slice (some ⟨g6,0,none⟩) (LF.length+1) cap6);refine hK.out _ _ KO (λOh=>?_);clear hK Kx KO;refine wpAnyH_done (by kernel_rfl) ?_ _;have FIN:=Hx (PUSH.out _ _ _ _ IH Ic Jl);clear IH Ic Jl JG kd6 fd6 hk7 a2;go_wp2;go_roundw
    case rel =>
     obtain⟨m2,a1,a2,a3,a4⟩:=FIN.out;exact⟨l+1,m2,by omega,by go_num,a1,a2,a3,a4⟩
    case measure=>simp[RowKit.intOf]; omega
  .obtain rfl:l=3:=by omega
   have HLF:=Hs (u.fly ++ [u.msg c 0,u.msg c 1,u.msg c 2]=LF) hLF;have lw:u.wait.length<=5:=LQ.out.2
   have AT7:=Hs (∀(o:Obj) (w6:World),(wr.drew.alloc o).grownBy w6 (Value.slice m9.wa u.wait.length m9.wc).ownBlock->w6.cell? ⟨M,13,none⟩=some (.slice m9.wa u.wait.length m9.wc)/\w6.frozen? ⟨M,13,none⟩=false) (λo w6 hg=>by
    have hb:w6.heap[M]?=wr.heap[M]?:=(hg.block M (by have:=LM.out; simp; omega) (λe=>(H9.out.Mw (gi H9.out.wait e.symm)).1 rfl)).trans (Below.heap_alloc _ _ _ LM.out)
    simp[World.cell?,World.frozen?,hb,H9.out.blk])
   have a2:∀o,(wr.alloc o).cell? ⟨M,13,none⟩=some (.slice m9.wa u.wait.length m9.wc):=λo=>(World.cell?_alloc_some _ _ _ (by rw[c9]; rfl)).trans c9;have NW:=Hx (row_one ⟨u.tag+1,c.who,u.num+1,[]⟩)
   have PUSH:=Hx (show ∀(o:Obj) (g6 cap6:Nat) (w6:World),w6.ownsRow 0 126 4 (.slice (some ⟨g6,0,none⟩) (u.wait.length+1) cap6) (u.wait.length+1) (sW u.wait ++ [.int .i64 (u.tag+1),.bool false,.bool false,.bool false])->(wr.drew.alloc o).grownBy w6 (Value.slice m9.wa u.wait.length m9.wc).ownBlock->((Value.slice m9.wa u.wait.length m9.wc).ownBlock=some g6\/g6=(wr.drew.alloc o).heap.size) ->
     dS Y w M (t.ask n c).1 (w6.setCell ⟨M,13,none⟩ (.slice (some ⟨g6,0,none⟩) (u.wait.length+1) cap6))/\(w6.setCell ⟨M,13,none⟩ (.slice (some ⟨g6,0,none⟩) (u.wait.length+1) cap6)).cell? ⟨M,12,none⟩=some (.int .i64 (u.tag+1)) from λo g6 cap6 w6 ec N6 Iw=>by
    have bb:Below wr.heap.size wr (wr.drew.alloc o):=(Below.refl _ _).drew.alloc (Nat.le_refl _) _;have kw:=uy bb N6;obtain⟨d1,d2⟩:=H9.out.pushWait ⟨u.tag+1,c.who,u.num+1,[]⟩ (by rw[EL.out]; exact CN.out) kw ec (Iw.imp id λq=>by rw[q]; exact bb.size) rfl;rw[E.out,HLF.out]
    exact⟨dS.of (d1.mono λb e=>e.elim (λe=>e.imp id λe=>⟨e.1,Nat.lt_of_lt_of_le e.2 d2.size⟩) λe=>.inr ⟨Nat.le_trans K9.out.size e.1,e.2⟩) (K9.out.more d2),(cells_at d1.blk (k:=12) rfl).1⟩)
   clear hLF c5 c7 c10 b5 b7 hl lf;go_wp2
   go_region_law (first|(refine step_append_lies _ (by rfl) _ _ _ (by rfl) 0 126 i2 _ 4 16 Tryz.underlying75 hj0 Lm MV hj3 rfl (by omega) (.slice m9.wa u.wait.length m9.wc) u.wait.length (sW u.wait) (by rfl) (World.ownsRow.alloc H9.out.wait _) ⟨wr.heap.size,0,none⟩ 1 1 [.int .i64 (u.tag+1),.bool false,.bool false,.bool false] (by rfl) (by rfl) (World.news_of_block (heap_alloc_new _ _)) NW.out (by omega) (by unfold maxLen; omega) (by omega) (by omega) _ rfl ?_; intro g6 cap6 w6 IH Ic Jl JG; have kd6:=(AT7.out _ _ Ic).1; have fd6:=(AT7.out _ _ Ic).2))
   all_goals
    have FIN:=Hx (PUSH.out _ _ _ _ IH Ic Jl);have cz:=FIN.out.2;clear IH Ic Jl JG kd6 fd6 a2;go_wp2;go_quiet (fail)
    go_wp2;exact bodyPost_ret (v:=.tuple #[.string ⟨#[]⟩,.int .i64 (u.tag+1),.int .i64 0,.int .i64 0]) (by simp[results,Tryz.results10,go_sem]) rfl ⟨by rw[E.out],FIN.out.1.over (Go.below_drewN (Below.refl _ _) _)⟩
end
theorem CO{Y:Nat->Prop}{w:World}{M n:Nat}{m:Dm}{t:Tg}{S:aw->Prop}{B:Int}(c:bG)(h:bO Y w M m t)(ti:TI n S B t)(hB:B+2<1000000000000000)(hs:c.data.size<=9223372036854775807/\c.want.size<=9223372036854775807) : Calls Tryz.prog 10 #[.pointer (some ⟨M,0,none⟩),eX c] w λe w'=>e=.returned (zQ (t.ask n c).2)/\dS Y w M (t.ask n c).1 w':=by
 by_cases hf:aB c=0
 .cases hb:t.b.get c.who with
  | cons x l =>
   obtain⟨e,hx⟩:=uP (n:=n) ti.box hf hb;rw[e];exact zB c h hs hf (dR hf).1.who x l hb hx
  | nil =>
   by_cases ho:c.op<=6
   .have e:t.ask n c=((t.order n c).1,gB.bad (t.order n c).2):=by
     unfold Tg.ask;rw[if_neg (by simp[hf]),hb,if_neg (by simp[takeN]),if_pos ho]
    rw[e];exact wM c h ti hB hs hf hb ho
   .exact wN c h ti hB hs hf hb (by omega)
 .have e:t.ask n c=(t,gB.bad (aB c)):=by
   unfold Tg.ask;rw[if_pos hf]
  rw[e];exact CM c h hs (aB c) rfl (by have:=uJ c; omega)
