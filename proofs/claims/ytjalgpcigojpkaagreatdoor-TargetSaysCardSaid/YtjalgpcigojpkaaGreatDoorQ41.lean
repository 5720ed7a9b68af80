import Derived.Test.YtjalgpcigojpkaaGreatDoorQ40
import Derived.Test.YtjalgpcigojpkaaGreatDoorQ23
import Derived.Test.YtjalgpcigojpkaaGreatDoorQ22
set_option maxRecDepth 99999
set_option maxHeartbeats 99999999
namespace Go.Proofs.YtjalgpcigojpkaaGreatDoor
section
open Go.RowKit Go.Sort
section
variable {Y:Nat->Prop} {w:World} {M:Nat} {m:Dm} {t:Tg}
theorem CM(c:bG)(h:bO Y w M m t)(hs:c.data.size<=9223372036854775807/\c.want.size<=9223372036854775807)(F:Int)(h0:aB c=F)(hF:0<F) : Calls Tryz.prog 10 #[.pointer (some ⟨M,0,none⟩),eX c] w λe w'=>e=.returned (zQ (gB.bad F))/\dS Y w M t w':=by
 have H:=Hx h;have HL:=Hx (h.own_lt M (.inl rfl));have RC:=Hs (∀wx,Calls Tryz.prog 51 #[.agg #[.int .i64 c.op,.int .i64 c.who,.int .i64 c.key,.int .i64 c.new,.int .i64 c.typ,.int .i64 c.at',.bool c.stays,.string c.data,.string c.want]] wx (λe w'=>e=.returned (.int .i64 F)/\Below wx.heap.size wx w')) (λwx=>h0▸jJ c wx hs);clear h;go_enter Tryz.func10,Tryz.ntmps10
 go_upto_region 1 with fail;obtain⟨wb,Iz⟩:=Nn (w.alloc (.cells #[.int .i64 c.op,.int .i64 c.who,.int .i64 c.key,.int .i64 c.new,.int .i64 c.typ,.int .i64 c.at',.bool c.stays,.string c.data,.string c.want] 39));rw[<-Iz];have B1:=Hs (Below w.heap.size w wb) (Iz▸ay w _);have X1:=Hs (wb.heap[w.heap.size]?=some (.cells (kU c) 39 (0,0))) (Iz▸heap_alloc_new w _);obtain⟨q0,q1,q2,q3,q4,q5,q6,q7,q8⟩:=eR X1.out;clear Iz;go_wp2_with fail;refine(RC.out _).mono ?_;rintro e w2 ⟨rfl,b2⟩;have B2:=Hx (B1.out.trans (b2.mono B1.out.size));have X2:=Hx ((b2.block _ (Gl X1.out)).trans X1.out);have H2:=Hx (H.out.over B2.out);clear b2 B1 X1 q0 q1 q2 q3 q4 q5 q6 q7 q8 RC;have K2:=Hx (dS.of (H2.out.mono λb e=>.inl e) (ac.of_below B2.out));go_wp2;exact bodyPost_ret (v:=.tuple #[.string ⟨#[]⟩,.int .i64 0,.int .i64 0,.int .i64 F]) (by simp[results,Tryz.results10,go_sem]) rfl ⟨rfl,K2.out⟩
theorem zB(c:bG)(h:bO Y w M m t)(hs:c.data.size<=9223372036854775807/\c.want.size<=9223372036854775807)(h0:aB c=0)(hw:1<=c.who/\c.who<=4)(x:Int)(l:List Int)(hb:t.b.get c.who=x :: l)(hx:1<=x/\x<=4) : Calls Tryz.prog 10 #[.pointer (some ⟨M,0,none⟩),eX c] w λe w'=>e=.returned (zQ ⟨⟨#[]⟩,0,x,0⟩)/\dS Y w M { t with b:=t.b.set c.who l } w':=by
 have H:=Hx h;have HL:=Hx (h.own_lt M (.inl rfl));have RC:=Hs (∀wx,Calls Tryz.prog 51 #[.agg #[.int .i64 c.op,.int .i64 c.who,.int .i64 c.key,.int .i64 c.new,.int .i64 c.typ,.int .i64 c.at',.bool c.stays,.string c.data,.string c.want]] wx (λe w'=>e=.returned (.int .i64 0)/\Below wx.heap.size wx w')) (λwx=>h0▸jJ c wx hs);clear h;go_enter Tryz.func10,Tryz.ntmps10
 go_upto_region 1 with fail;obtain⟨wb,Iz⟩:=Nn (w.alloc (.cells #[.int .i64 c.op,.int .i64 c.who,.int .i64 c.key,.int .i64 c.new,.int .i64 c.typ,.int .i64 c.at',.bool c.stays,.string c.data,.string c.want] 39));rw[<-Iz];have B1:=Hs (Below w.heap.size w wb) (Iz▸ay w _);have X1:=Hs (wb.heap[w.heap.size]?=some (.cells (kU c) 39 (0,0))) (Iz▸heap_alloc_new w _);obtain⟨q0,q1,q2,q3,q4,q5,q6,q7,q8⟩:=eR X1.out;clear Iz;go_wp2_with fail;refine(RC.out _).mono ?_;rintro e w2 ⟨rfl,b2⟩;have B2:=Hx (B1.out.trans (b2.mono B1.out.size));have X2:=Hx ((b2.block _ (Gl X1.out)).trans X1.out);have H2:=Hx (H.out.over B2.out);clear b2 B1 X1 q0 q1 q2 q3 q4 q5 q6 q7 q8 RC
 have TAKE:=Hs (Calls Tryz.prog 52 #[.pointer (some ⟨M,7,none⟩),.int .i64 c.who] w2.drew (λe w'=>e=.returned (.int .i64 x)/\(∃m',bO (bL Y w2.drew w') w' M m' { t with b:=t.b.set c.who l })/\ac (·=M) w2.drew w')) (by
  refine(kT c.who hw (H2.out.over (Below.refl _ _).drew)).mono ?_;rintro e w' ⟨rfl,⟨m',h',-⟩,k'⟩;rw[hb]at h' ⊢
  exact⟨rfl,⟨m',h'⟩,k'⟩)
 have S0:=Hs (w2.drew.cell? ⟨w.heap.size,1,none⟩=some (.int .i64 c.who)) ((eR X2.out).2.1);have S1:=Hs (∀w',ac (·=M) w2.drew w'->w'.heap[w.heap.size]?=some (.cells (kU c) 39 (0,0))) (λw' k=>(k.block _ (λe=>by have:=HL.out; omega) (Gl X2.out)).trans X2.out);have S2:=Hs (∀w',ac (·=M) w2.drew w'->w'.cell? ⟨w.heap.size,1,none⟩=some (.int .i64 c.who)) (λw' k=>(eR (S1.out w' k)).2.1);go_wp2
 go_region_held3 (λw'=>w'.cell? ⟨w.heap.size,1,none⟩=some (.int .i64 c.who))
  (first|with_reducible assumption | with_reducible exact S0.out | with_reducible exact S2.out _ (by with_reducible assumption))
  (first
   | (with_reducible refine TAKE.out.mono ?_; rintro e w3 ⟨rfl,⟨m3,h3⟩,k3⟩))
 rename_i dT;clear dT;have k3':ac (·=M) w2 w3:=(ac.refl _ _).drew.trans k3;have H3:=Hs (bO (bL Y w w3) w3 M m3 { t with b:=t.b.set c.who l }) (h3.mono λb e=>e.imp id λe=>⟨Nat.le_trans B2.out.size e.1,e.2⟩);have K3:=Hs (ac Y w w3) ((ac.of_below B2.out).trans (k3'.mono λb e=>e▸H.out.own M (.inl rfl)));have X3:=Hx (S1.out w3 k3);clear k3 k3' h3 S0 S1 S2 TAKE H2 X2 B2;have hx0:0<x:=hx.1;go_wp2;exact bodyPost_ret (v:=.tuple #[.string ⟨#[]⟩,.int .i64 0,.int .i64 x,.int .i64 0]) (by simp[results,Tryz.results10,go_sem]) rfl ⟨rfl,dS.of H3.out K3.out⟩
end
section
variable {Y:Nat->Prop} {w:World} {M:Nat} {m:Dm} {t:Tg}
variable {n:Nat} {S:aw->Prop} {B:Int}
def xa (w3:World)(sa:Option Addr)(nl:Nat)(r:St × List (Int × Int) × Int)(p v f:Value)(wx:World):Prop :=
 ∃T a cap,p=.pointer (some ⟨T,0,none⟩)/\f=.int .i64 r.2.2/\bT w3.heap.size wx v r.2.1/\wx.heap[T]?=some (.cells #[.int .i64 r.1.gen,.slice a r.1.regs.length cap,.int .i64 r.1.typ,.int .i64 r.1.holder,.bool r.1.stays] 34 (0,0))/\w3.heap.size<=T /\
  bj wx r.1 a/\Below w3.heap.size w3 wx/\((a=sa/\r.1.regs.length<=nl)\/∀b o,a=some ⟨b,o,none⟩->w3.heap.size<=b)
theorem xa.one{w3 w4:World}{sa a4:Option Addr}{nl cap4:Nat}{r:St × List (Int × Int) × Int}{v4:Value}(st4:bj w4 r.1 a4)(ow4:bT w3.drew.heap.size w4 v4 r.2.1)(b4:Below w3.drew.heap.size w3.drew w4)(al4:(a4=sa/\r.1.regs.length<=nl)\/∀b o,a4=some ⟨b,o,none⟩->w3.drew.heap.size<=b) : xa w3 sa nl r (.pointer (some ⟨w4.heap.size,0,none⟩)) v4 (.int .i64 r.2.2) (w4.alloc (.cells #[.int .i64 r.1.gen,.slice a4 r.1.regs.length cap4,.int .i64 r.1.typ,.int .i64 r.1.holder,.bool r.1.stays] 34)) :=
 ⟨w4.heap.size,a4,cap4,rfl,rfl,ow4.below (ay w4 _),heap_alloc_new _ _,b4.size,st4.below (ay w4 _),((Below.refl _ _).drew.trans b4).alloc b4.size _,al4⟩
theorem xa.two{w3 w4:World}{sa a4:Option Addr}{nl cap4:Nat}{r:St × List (Int × Int) × Int}{v4 x0 x1 x2 x3 x4:Value}(hsa:0<nl->∀b o,sa=some ⟨b,o,none⟩->b<w3.heap.size)(st4:bj w4 r.1 a4)(ow4:bT (w3.drew.alloc (.cells #[x0,x1,x2,x3,x4] 34)).heap.size w4 v4 r.2.1)(b4:Below (w3.drew.alloc (.cells #[x0,x1,x2,x3,x4] 34)).heap.size (w3.drew.alloc (.cells #[x0,x1,x2,x3,x4] 34)) w4)(al4:(a4=sa/\r.1.regs.length<=nl)\/∀b o,a4=some ⟨b,o,none⟩->(w3.drew.alloc (.cells #[x0,x1,x2,x3,x4] 34)).heap.size<=b) : xa w3 sa nl r (.pointer (some ⟨w3.heap.size,0,none⟩)) v4 (.int .i64 r.2.2) (((((w4.setCell ⟨w3.heap.size,0,none⟩ (.int .i64 r.1.gen)).setCell ⟨w3.heap.size,1,none⟩ (.slice a4 r.1.regs.length cap4)).setCell ⟨w3.heap.size,2,none⟩ (.int .i64 r.1.typ)).setCell ⟨w3.heap.size,3,none⟩ (.int .i64 r.1.holder)).setCell ⟨w3.heap.size,4,none⟩ (.bool r.1.stays)):=by
 have zs:(w3.drew.alloc (.cells #[x0,x1,x2,x3,x4] 34)).heap.size=w3.heap.size+1:=(by simp:(w3.drew.alloc (.cells #[x0,x1,x2,x3,x4] 34)).heap.size=w3.drew.heap.size+1)
 have hT:w4.heap[w3.heap.size]?=some (.cells #[x0,x1,x2,x3,x4] 34 (0,0)):=(b4.block _ (by omega)).trans (heap_alloc_new w3.drew _);have K5:=iT (M:=w3.heap.size) (ac.refl (·=w3.heap.size) w4) rfl (.int .i64 r.1.gen) (.slice a4 r.1.regs.length cap4) (.int .i64 r.1.typ) (.int .i64 r.1.holder) (.bool r.1.stays);have bA:Below w3.heap.size w3 w4:=((Below.refl _ _).drew.alloc (Nat.le_refl _) _).trans (b4.mono (Nat.le.intro zs.symm));refine⟨w3.heap.size,a4,cap4,rfl,rfl,(ow4.keeps K5 λm hm=>by omega).mono (by omega),block_setCell (o:=4) (block_setCell (o:=3) (block_setCell (o:=2) (block_setCell (o:=1) (block_setCell (o:=0) hT _) _) _) _) _,Nat.le_refl _,⟨st4.len,λi hi=>?_⟩,((ac.of_below (S:=λb=>w3.heap.size<=b) bA).trans (K5.mono λb e=>Nat.le_of_eq e.symm)).below (Nat.le_refl _) λ_ e=>e,al4.imp id λq b o e=>by have:=q b o e; omega⟩;obtain⟨b,o,e,hb,c1,c2⟩:=st4.rep i hi
 have hn:b≠w3.heap.size:=by
  rcases al4 with⟨e2,hl⟩ | q
  .have:=hsa (by omega) b o (e2▸e);omega
  .have:=q b o e;omega
 exact⟨b,o,e,Nat.lt_of_lt_of_le hb K5.size,by rw[K5.cell hn hb]; exact c1,by rw[K5.cell hn hb]; exact c2⟩
def GE (Y:Nat->Prop)(w:World)(M:Nat)(ord:Tg × Int)(r:St)(a:Option Addr)(cap T B:Nat)(v:Value)(l:List (Int × Int))(wx:World):Prop :=
 ∃m5 t5,∃k:Kp,bO (bL Y w wx) wx M m5 t5/\ord=({ t5 with k:=k,b:=t5.b.adds l },0)/\k.s=r/\k.ep=t5.k.ep/\dB (λb=>bL Y w wx b/\¬ m5.own M b) wx a r.regs /\
  wx.heap[T]?=some (.cells #[.int .i64 r.gen,.slice a r.regs.length cap,.int .i64 r.typ,.int .i64 r.holder,.bool r.stays] 34 (0,0))/\bT B wx v l/\ac Y w wx
theorem dB.mono{X Y:Nat->Prop}{w:World}{a:Option Addr}{l:List (Int × Int)}(h:dB X w a l)(hX:∀b,X b->b<w.heap.size->Y b):dB Y w a l:=h.to (Nat.le_refl _) λb e hb=>⟨rfl,hX b e hb⟩
theorem wM(c:bG)(h:bO Y w M m t)(ti:TI n S B t)(hB:B+2<1000000000000000)(hs:c.data.size<=9223372036854775807/\c.want.size<=9223372036854775807)(h0:aB c=0)(hb:t.b.get c.who=[])(ho:c.op<=6) : Calls Tryz.prog 10 #[.pointer (some ⟨M,0,none⟩),eX c] w λe w'=>e=.returned (zQ (gB.bad (t.order n c).2))/\dS Y w M (t.order n c).1 w':=by
 have CK:=(dR h0).1;have GZ:=ti.good;have hw:=CK.who;obtain⟨r,hr⟩:=Nm (dy t.k.s c);have RD:=(DY GZ CK).symm.trans hr;have OD:=Hx (yF ti hB CK hr);have PN:=Hs (0<=r.2.2) (hr▸AP _ _);have WHO:=Hs (∀x∈r.2.1,1<=x.1/\x.1<=4) (hr▸tw GZ CK)
 have LESQ:=Hs (r.2.2=0->cG eD t.k.s r.1=cG ce t.k.s r.1) (λe=>by
  have G2:Good r.1:=hr▸lx GZ CK (by rw[hr]; exact e)
  exact(vT (λwho b=>iL t.k.s GZ who b) (λwho b=>iL r.1 G2 who b)).symm)
 have EP:=Hx ti.e1;have RDY:=Hx ti.ready;have LFS:=Hs (sX t.k.s.regs 40) (⟨by have:=GZ.regs_len; omega,λr hr=>by have:=GZ.bounds r hr; omega,GZ.sorted⟩);have OA:=Hs ((0<=c.who/\c.who<=1000)/\1<=c.op/\0<=c.new/\(0<=t.k.s.gen/\t.k.s.gen<=1000000000)) (⟨by omega,CK.op.1,CK.new.1,GZ.gen⟩);have H:=Hx h;have HL:=Hx (h.own_lt M (.inl rfl));have RC:=Hs (∀wx,Calls Tryz.prog 51 #[.agg #[.int .i64 c.op,.int .i64 c.who,.int .i64 c.key,.int .i64 c.new,.int .i64 c.typ,.int .i64 c.at',.bool c.stays,.string c.data,.string c.want]] wx (λe w'=>e=.returned (.int .i64 0)/\Below wx.heap.size wx w')) (λwx=>h0▸jJ c wx hs);clear h CK GZ hr;go_enter Tryz.func10,Tryz.ntmps10
 go_upto_region 1 with fail;obtain⟨wb,Iz⟩:=Nn (w.alloc (.cells #[.int .i64 c.op,.int .i64 c.who,.int .i64 c.key,.int .i64 c.new,.int .i64 c.typ,.int .i64 c.at',.bool c.stays,.string c.data,.string c.want] 39));rw[<-Iz];have B1:=Hs (Below w.heap.size w wb) (Iz▸ay w _);have X1:=Hs (wb.heap[w.heap.size]?=some (.cells (kU c) 39 (0,0))) (Iz▸heap_alloc_new w _);obtain⟨q0,q1,q2,q3,q4,q5,q6,q7,q8⟩:=eR X1.out;clear Iz;go_wp2_with fail;refine(RC.out _).mono ?_;rintro e w2 ⟨rfl,b2⟩;have B2:=Hx (B1.out.trans (b2.mono B1.out.size));have X2:=Hx ((b2.block _ (Gl X1.out)).trans X1.out);have H2:=Hx (H.out.over B2.out);clear b2 B1 X1 q0 q1 q2 q3 q4 q5 q6 q7 q8 RC
 have TAKE:=Hs (Calls Tryz.prog 52 #[.pointer (some ⟨M,7,none⟩),.int .i64 c.who] w2.drew (λe w'=>e=.returned (.int .i64 0)/\(∃m',bO (bL Y w2.drew w') w' M m' t)/\ac (·=M) w2.drew w')) (by
  refine(kT c.who hw (H2.out.over (Below.refl _ _).drew)).mono ?_;rintro e w' ⟨rfl,⟨m',h',-⟩,k'⟩;rw[hb]at h' ⊢
  have e:({ t with b:=t.b.set c.who ([]:List Int).tail }:Tg)=t:=by
   have e2:t.b.set c.who []=t.b:=by rw[<-hb]; exact Bl.set_get _ _
   rw[show([]:List Int).tail=[] from rfl,e2]
  exact⟨rfl,⟨m',e▸h'⟩,k'⟩)
 have S0:=Hs (w2.drew.cell? ⟨w.heap.size,1,none⟩=some (.int .i64 c.who)) ((eR X2.out).2.1);have S1:=Hs (∀w',ac (·=M) w2.drew w'->w'.heap[w.heap.size]?=some (.cells (kU c) 39 (0,0))) (λw' k=>(k.block _ (λe=>by have:=HL.out; omega) (Gl X2.out)).trans X2.out);have S2:=Hs (∀w',ac (·=M) w2.drew w'->w'.cell? ⟨w.heap.size,1,none⟩=some (.int .i64 c.who)) (λw' k=>(eR (S1.out w' k)).2.1);go_wp2
 go_region_held3 (λw'=>w'.cell? ⟨w.heap.size,1,none⟩=some (.int .i64 c.who))
  (first|with_reducible assumption | with_reducible exact S0.out | with_reducible exact S2.out _ (by with_reducible assumption))
  (first
   | (with_reducible refine TAKE.out.mono ?_; rintro e w3 ⟨rfl,⟨m3,h3⟩,k3⟩))
 rename_i dT;clear dT;have k3':ac (·=M) w2 w3:=(ac.refl _ _).drew.trans k3;have H3:=Hs (bO (bL Y w w3) w3 M m3 t) (h3.mono λb e=>e.imp id λe=>⟨Nat.le_trans B2.out.size e.1,e.2⟩);have K3:=Hs (ac Y w w3) ((ac.of_below B2.out).trans (k3'.mono λb e=>e▸H.out.own M (.inl rfl)));have X3:=Hx (S1.out w3 k3);clear k3 k3' h3 S0 S1 S2 TAKE H2 X2 B2
 have ORD:=Hs (∀wx,Below w3.heap.size w3 wx->Calls Tryz.prog 53 #[.agg #[.int .i64 t.k.s.gen,.slice m3.sa t.k.s.regs.length m3.sc,.int .i64 t.k.s.typ,.int .i64 t.k.s.holder,.bool t.k.s.stays],.agg #[.int .i64 c.op,.int .i64 c.who,.int .i64 c.key,.int .i64 c.new,.int .i64 c.typ,.int .i64 c.at',.bool c.stays,.string c.data,.string c.want]] wx (nN m3.sa t.k.s.regs.length r wx)) (λwx b=>by
  have st:bj wx t.k.s m3.sa:=(H3.out.str.str H3.out.len).below b
  exact RD▸rO t.k.s m3.sa m3.sc c wx st LFS.out OA.out.1 OA.out.2.1 OA.out.2.2.1 OA.out.2.2.2)
 have KEEP:=Hs (∀w',ac (λb=>w3.heap.size<=b) w3 w'->ac (λb=>w3.heap.size<=b) w3 w'/\w'.cell? ⟨M,0,none⟩=some (.int .i64 t.k.s.gen)/\w'.cell? ⟨M,1,none⟩=some (.slice m3.sa t.k.s.regs.length m3.sc)/\w'.cell? ⟨M,2,none⟩=some (.int .i64 t.k.s.typ)/\w'.cell? ⟨M,3,none⟩=some (.int .i64 t.k.s.holder)/\w'.cell? ⟨M,4,none⟩=some (.bool t.k.s.stays)/\w'.cell? ⟨w.heap.size,0,none⟩=some (.int .i64 c.op)/\w'.cell? ⟨w.heap.size,1,none⟩=some (.int .i64 c.who)/\w'.cell? ⟨w.heap.size,2,none⟩=some (.int .i64 c.key)/\w'.cell? ⟨w.heap.size,3,none⟩=some (.int .i64 c.new)/\w'.cell? ⟨w.heap.size,4,none⟩=some (.int .i64 c.typ)/\w'.cell? ⟨w.heap.size,5,none⟩=some (.int .i64 c.at')/\w'.cell? ⟨w.heap.size,6,none⟩=some (.bool c.stays)/\w'.cell? ⟨w.heap.size,7,none⟩=some (.string c.data)/\w'.cell? ⟨w.heap.size,8,none⟩=some (.string c.want)) (λw' k=>by
  have lM:=H3.out.own_lt M (.inl rfl)
  have lX:=(Gl X3.out)
  have hM:=(k.block M (by omega) lM).trans H3.out.blk;have hX:=(k.block w.heap.size (by omega) lX).trans X3.out;obtain⟨⟨c0,c1,c2,c3,c4,-⟩,-⟩:=aY hM
  exact⟨k,c0,c1,c2,c3,c4,eR hX⟩)
 have HSA:=Hs (0<t.k.s.regs.length->∀b o,m3.sa=some ⟨b,o,none⟩->b<w3.heap.size) (λh b o e=>by
  obtain⟨b',o',e',-,Jk,-⟩:=H3.out.str 0 h;rw[e]at e';cases e'
  exact Jk)
 clear RD hs hb h0 hw;obtain⟨q0,-⟩:=eR X3.out;go_upto_region 8 with fail;go_cut [10,11,12] (λp v f wx=>xa w3 m3.sa t.k.s.regs.length r p v f wx)
 case first=>as_aux_lemma =>
  go_region_held3 (λw'=>ac (λb=>w3.heap.size<=b) w3 w'/\w'.cell? ⟨M,0,none⟩=some (.int .i64 t.k.s.gen)/\w'.cell? ⟨M,1,none⟩=some (.slice m3.sa t.k.s.regs.length m3.sc)/\w'.cell? ⟨M,2,none⟩=some (.int .i64 t.k.s.typ)/\w'.cell? ⟨M,3,none⟩=some (.int .i64 t.k.s.holder)/\w'.cell? ⟨M,4,none⟩=some (.bool t.k.s.stays)/\w'.cell? ⟨w.heap.size,0,none⟩=some (.int .i64 c.op)/\w'.cell? ⟨w.heap.size,1,none⟩=some (.int .i64 c.who)/\w'.cell? ⟨w.heap.size,2,none⟩=some (.int .i64 c.key)/\w'.cell? ⟨w.heap.size,3,none⟩=some (.int .i64 c.new)/\w'.cell? ⟨w.heap.size,4,none⟩=some (.int .i64 c.typ)/\w'.cell? ⟨w.heap.size,5,none⟩=some (.int .i64 c.at')/\w'.cell? ⟨w.heap.size,6,none⟩=some (.bool c.stays)/\w'.cell? ⟨w.heap.size,7,none⟩=some (.string c.data)/\w'.cell? ⟨w.heap.size,8,none⟩=some (.string c.want))
   (first|(refine KEEP.out _ ?_; first | exact(ac.refl _ _).drew | exact ac.trans (And.left (by assumption)) (ac.of_below (by assumption)) | exact ac.alloc (And.left (by assumption)) _ | exact ac.alloc ((ac.refl _ _).drew.trans (ac.of_below (by assumption))) _ | exact iT (ac.trans ((ac.refl _ _).drew.alloc _) (ac.of_below (by assumption))) (Nat.le_refl _) _ _ _ _ _))
   (first
    | ((with_reducible refine(ORD.out _ (ac.below (And.left (by assumption)) (Nat.le_refl _) (λ_ e=>e))).mono ?_); rintro e w4 ⟨a4,cap4,v4,rfl,st4,ow4,b4,al4⟩; first | (obtain⟨⟨z0,z1,z2,z3,z4⟩,y0,y1,y2,y3,y4⟩:=cells5 ((b4.block _ (by simp)).trans (heap_alloc_new _ _))) | skip))
  .go_wp2;go_meet;exact xa.one st4 ow4 b4 al4
  .go_wp2;go_meet;exact xa.two HSA.out st4 ow4 b4 al4
 case rest =>
 obtain⟨T,a,cap,rfl,rfl,ow4,hT4,lT,st4,b4,al4⟩:=hcut
 obtain⟨w4,rfl⟩:∃w4:World,w4=wc:=⟨_,rfl⟩
 have H4:=Hs (bO (bL Y w w4) w4 M m3 t) ((H3.out.over b4).mono λb e=>e.imp id λe=>⟨e.1,Nat.lt_of_lt_of_le e.2 b4.size⟩);have K4:=Hs (ac Y w w4) (K3.out.trans (ac.of_below b4));have P4:=Hs (dB (λb=>bL Y w w4 b/\¬ m3.own M b) w4 a r.1.regs) ((H3.out.pairs_new st4 al4).mono λb e hb=>⟨e.1.elim (λq=>q.imp id λq=>⟨q.1,Nat.lt_of_lt_of_le q.2 b4.size⟩) λq=>.inr ⟨Nat.le_trans K3.out.size q.1,q.2⟩,e.2⟩);have T4:=Hx hT4;have ST4:=Hx st4;have OW4:=Hx ow4;have LL:=Hs (M<w3.heap.size/\m3.G<w3.heap.size/\w3.heap.size<=T) (⟨H3.out.own_lt M (.inl rfl),H3.out.own_lt _ (.inr (.inl rfl)),lT⟩);clear ow4 hT4 st4 b4 al4 lT ORD KEEP HSA q0 X3 K3 H3 LFS OA;by_cases hF:r.2.2=0
 rotate_left 1
 .have hF1:0<r.2.2:=by have:=PN.out; omega
  have E:=Hx (OD.out.1 hF);clear hF;go_wp2;exact bodyPost_ret (v:=.tuple #[.string ⟨#[]⟩,.int .i64 0,.int .i64 0,.int .i64 r.2.2]) (by simp[results,Tryz.results10,go_sem]) rfl ⟨by rw[E.out]; rfl,by rw[E.out]; exact dS.of H4.out K4.out⟩
 have hF1:¬ 0<r.2.2:=by omega
 have HF:=Hx hF;obtain⟨L,hL⟩:=Nm (cG ce t.k.s r.1);have HLq:=Hx hL
 have LES:=Hs (Calls Tryz.prog 54 #[.agg #[.int .i64 t.k.s.gen,.slice m3.sa t.k.s.regs.length m3.sc,.int .i64 t.k.s.typ,.int .i64 t.k.s.holder,.bool t.k.s.stays],.agg #[.int .i64 r.1.gen,.slice a r.1.regs.length cap,.int .i64 r.1.typ,.int .i64 r.1.holder,.bool r.1.stays]] w4.drew (λe w'=>e=.returned (.bool L)/\Below w4.drew.heap.size w4.drew w')) (by
  have st:bj w4.drew t.k.s m3.sa:=(H4.out.str.str H4.out.len).below (Below.refl _ _).drew;rw[<-hL,<-LESQ.out hF]
  exact yr t.k.s r.1 m3.sa a m3.sc cap w4.drew st (ST4.out.below (Below.refl _ _).drew))
 have S1:=Hs (∀w',Below w4.drew.heap.size w4.drew w'->w'.cell? ⟨M,0,none⟩=some (.int .i64 t.k.s.gen)/\w'.cell? ⟨M,1,none⟩=some (.slice m3.sa t.k.s.regs.length m3.sc)/\w'.cell? ⟨M,2,none⟩=some (.int .i64 t.k.s.typ)/\w'.cell? ⟨M,3,none⟩=some (.int .i64 t.k.s.holder)/\w'.cell? ⟨M,4,none⟩=some (.bool t.k.s.stays)/\w'.cell? ⟨T,0,none⟩=some (.int .i64 r.1.gen)/\w'.cell? ⟨T,1,none⟩=some (.slice a r.1.regs.length cap)/\w'.cell? ⟨T,2,none⟩=some (.int .i64 r.1.typ)/\w'.cell? ⟨T,3,none⟩=some (.int .i64 r.1.holder)/\w'.cell? ⟨T,4,none⟩=some (.bool r.1.stays)) (λw' k=>by
  have hM:=(k.block M (H4.out.own_lt M (.inl rfl))).trans H4.out.blk;have hX:=(k.block T (Gl T4.out)).trans T4.out;obtain⟨⟨c0,c1,c2,c3,c4,-⟩,-⟩:=aY hM
  exact⟨c0,c1,c2,c3,c4,(cells5 hX).1⟩)
 clear hF hL;go_wp2
 go_region_held3 (λw'=>w'.cell? ⟨M,0,none⟩=some (.int .i64 t.k.s.gen)/\w'.cell? ⟨M,1,none⟩=some (.slice m3.sa t.k.s.regs.length m3.sc)/\w'.cell? ⟨M,2,none⟩=some (.int .i64 t.k.s.typ)/\w'.cell? ⟨M,3,none⟩=some (.int .i64 t.k.s.holder)/\w'.cell? ⟨M,4,none⟩=some (.bool t.k.s.stays)/\w'.cell? ⟨T,0,none⟩=some (.int .i64 r.1.gen)/\w'.cell? ⟨T,1,none⟩=some (.slice a r.1.regs.length cap)/\w'.cell? ⟨T,2,none⟩=some (.int .i64 r.1.typ)/\w'.cell? ⟨T,3,none⟩=some (.int .i64 r.1.holder)/\w'.cell? ⟨T,4,none⟩=some (.bool r.1.stays))
  (first|with_reducible assumption | with_reducible exact S1.out _ (Below.refl _ _) | with_reducible exact S1.out _ (by with_reducible assumption))
  (first
   | (with_reducible refine LES.out.mono ?_; rintro e w5 ⟨rfl,b5⟩))
 rename_i dT;clear dT;have b5':Below w4.heap.size w4 w5:=(Below.refl _ _).drew.trans b5;have H5:=Hs (bO (bL Y w w5) w5 M m3 t) ((H4.out.over b5').mono λb e=>e.imp id λe=>⟨e.1,Nat.lt_of_lt_of_le e.2 b5'.size⟩);have K5:=Hs (ac Y w w5) (K4.out.trans (ac.of_below b5'));have P5:=Hs (dB (λb=>bL Y w w5 b/\¬ m3.own M b) w5 a r.1.regs) (P4.out.to b5'.size λb e hb=>⟨b5'.block b hb,e.1.imp id λe=>⟨e.1,Nat.lt_of_lt_of_le e.2 b5'.size⟩,e.2⟩);have T5:=Hx ((b5'.block T (Gl T4.out)).trans T4.out);have OW5:=Hx (OW4.out.below b5');have NX:=Hx (mB r.1 a cap H5.out (by have:=EP.out; omega) ST4.out.len P5.out);clear b5 b5' H4 K4 P4 T4 OW4 S1 LES;obtain⟨⟨t0,t1,t2,t3,t4⟩,-⟩:=cells5 T5.out;go_upto_if 58 with fail;go_cut [58] (λ_ wx=>GE Y w M (t.order n c) r.1 a cap T w3.heap.size u11 r.2.1 wx)
 case first=>as_aux_lemma =>
  cases L
  .obtain⟨k,e1,e2,e3⟩:=OD.out.2.2 HF.out HLq.out;go_wp2;go_meet;exact⟨m3,t,k,H5.out,e1,e2,e3,P5.out,T5.out,OW5.out,K5.out⟩
  .have OD2:=Hx (OD.out.2.1 HF.out HLq.out);go_wp2_with fail;refine NX.out.mono ?_;rintro e w6 (⟨r1,rfl,h6,k6⟩ | ⟨r1,r2,rfl,h6,k6⟩ | ⟨r1,r2,rfl,m6,h6,eG,ow6,k6⟩)
   .have E:=Hx (OD2.out.1 r1);have h6':bO (bL Y w w5) w6 M m3 t:=RDY.out▸h6;have D6:=Hs (dS Y w M t w6) (dS.of (h6'.mono λb e=>e.imp id λe=>⟨e.1,Nat.lt_of_lt_of_le e.2 k6.size⟩) (K5.out.more (k6.mono λb e=>e▸H5.out.own _ (.inr (.inl rfl)))));clear r1 h6 h6' k6;go_wp2;exact bodyPost_ret (v:=.tuple #[.string ⟨#[]⟩,.int .i64 0,.int .i64 0,.int .i64 7]) (by simp[results,Tryz.results10,go_sem]) rfl ⟨by rw[E.out]; rfl,by rw[E.out]; exact D6.out⟩
   .have E:=Hx (OD2.out.2.1 r1 r2);have h6':bO (bL Y w w5) w6 M m3 t:=RDY.out▸h6;have D6:=Hs (dS Y w M t w6) (dS.of (h6'.mono λb e=>e.imp id λe=>⟨e.1,Nat.lt_of_lt_of_le e.2 k6.size⟩) (K5.out.more (k6.mono λb e=>e▸H5.out.own _ (.inr (.inl rfl)))));clear r1 r2 h6 h6' k6;go_wp2;exact bodyPost_ret (v:=.tuple #[.string ⟨#[]⟩,.int .i64 0,.int .i64 0,.int .i64 6]) (by simp[results,Tryz.results10,go_sem]) rfl ⟨by rw[E.out]; rfl,by rw[E.out]; exact D6.out⟩
   .obtain⟨k,e1,e2,e3⟩:=OD2.out.2.2 r1 r2
    have up:∀b,bL Y w w5 b->bL Y w w6 b:=λb e=>e.imp id λe=>⟨e.1,Nat.lt_of_lt_of_le e.2 k6.size⟩
    have gG:=LL.out
    have FIN:=Hs (GE Y w M (t.order n c) r.1 a cap T w3.heap.size u11 r.2.1 w6) (     ⟨m6,t.nexted r.1,k,h6.mono up,e1,e2,e3,P5.out.to k6.size λb e hb=>⟨k6.block b (λq=>e.2 (q.imp id .inl)) hb,up b e.1,λq=>e.2 (ow6 b q)⟩,
      (k6.block T (λq=>by omega) (Gl T5.out)).trans T5.out,OW5.out.keeps k6 (λb q=>by omega),K5.out.more (k6.mono λb e=>H5.out.own b (e.imp id .inl))⟩)
    clear r1 r2 h6 k6 e1 e2 e3 up gG ow6 eG;go_wp2;go_meet;exact FIN.out
 case rest =>
 obtain⟨m5,t5,k,h6,e1,e2,e3,p6,hT6,ow6,k6⟩:=hcut
 obtain⟨w6,rfl⟩:∃w6:World,w6=wc:=⟨_,rfl⟩
 obtain⟨⟨t0,t1,t2,t3,t4⟩,-⟩:=cells5 hT6;obtain⟨⟨c0,c1,c2,c3,c4,-⟩,hf⟩:=aY h6.blk;have f0:=hf 0;have f1:=hf 1;have f2:=hf 2;have f3:=hf 3;have f4:=hf 4;have H6:=Hx h6;have P6:=Hx p6;have K6:=Hx k6;have OW6:=Hx ow6;have E6:=Hx (And.intro e1 (And.intro e2 e3));clear hf h6 p6 k6 ow6 e1 e2 e3 hT6 H5 K5 P5 T5 OW5 NX OD;go_upto_region 17 with fail;obtain⟨w7,hw7⟩:=Nn (((((w6.setCell ⟨M,0,none⟩ (.int .i64 r.1.gen)).setCell ⟨M,1,none⟩ (.slice a r.1.regs.length cap)).setCell ⟨M,2,none⟩ (.int .i64 r.1.typ)).setCell ⟨M,3,none⟩ (.int .i64 r.1.holder)).setCell ⟨M,4,none⟩ (.bool r.1.stays));rw[<-hw7];obtain⟨h7,k7⟩:=H6.out.setS r.1 a cap ST4.out.len P6.out hw7;have K7:=Hx k7;have H7:=Hs (bO (bL Y w w7) w7 M _ _) (h7.mono λb e=>e.imp id λe=>⟨e.1,Nat.lt_of_lt_of_le e.2 k7.size⟩);have OW7:=OW6.out.keeps k7 (λb q=>by have:=LL.out; omega);have LB:=Hx OW7.blk
 have hlen:r.2.1.length<=maxLen:=by
  obtain⟨-,h2 | ⟨g,c',cur,e,hg,hh,hc,hm,hs,ht⟩⟩:=OW7
  .rw[h2.2]; omega
  .omega
 unfold maxLen at hlen;obtain⟨la,lc,rfl,lp⟩:=OW7.shape;have LP:=Hx lp;clear hw7 h7 k7 lp OW7 OW6 t0 t1 t2 t3 t4 c0 c1 c2 c3 c4 f0 f1 f2 f3 f4 P6 H6 hF1;go_wp2;go_loopw [15] (λi wr=>∃j:Nat,j<=r.2.1.length/\i=.int .i64 j/\(∃m',bO (bL Y w wr) wr M m' { t5 with k:=⟨t5.k.d,t5.k.num,t5.k.ep,r.1⟩,b:=t5.b.adds (r.2.1.take j) })/\ac (·=M) w7 wr) (λi _=>r.2.1.length - (RowKit.intOf i).toNat)
 case atStart=>exact⟨0,by omega,rfl,⟨_,H7.out⟩,ac.refl _ _⟩
 case round =>
  obtain⟨j,hj,rfl,⟨m8,h8⟩,k8⟩:=hrel;have K8:=Hx k8;have H8:=Hx h8;clear h8 k8;by_cases lB:j<r.2.1.length
  .obtain⟨b,o,rfl,hb,c1,c2⟩:=LP.out j lB
   have nb:b≠M:=by have:=LB.out b rfl; have:=LL.out; omega
   have XW:=Hx (WHO.out _ (List.getElem_mem lB));have XA:=Hx (zS t5.b r.2.1 j lB);obtain⟨x,hx⟩:=Nm (r.2.1[j]);rw[hx]at c1 c2 XW XA
   have S1:=Hs (∀w',ac (·=M) wr.drew w'->w'.cell? ⟨b,o+j*2,none⟩=some (.int .i64 x.1)/\w'.cell? ⟨b,o+j*2+1,none⟩=some (.int .i64 x.2)) (λw' k=>by
    have kk:=(K8.out.trans (ac.refl _ _).drew).trans k
    exact⟨(kk.cell nb hb).trans c1,(kk.cell nb hb).trans c2⟩)
   have ADD:=Hs (Calls Tryz.prog 55 #[.pointer (some ⟨M,7,none⟩),.agg #[.int .i64 x.1,.int .i64 x.2]] wr.drew (λe w'=>e=.returned (.tuple #[])/\(∃m',bO (bL Y w w') w' M m' { t5 with k:=⟨t5.k.d,t5.k.num,t5.k.ep,r.1⟩,b:=t5.b.adds (r.2.1.take (j+1)) })/\ac (·=M) wr.drew w')) (by
    refine(zx x XW.out (H8.out.over (Below.refl _ _).drew)).mono ?_;rintro e w' ⟨rfl,⟨m',h',-⟩,k'⟩;rw[XA.out];have z8:=K8.out.size;have z7:=K7.out.size;have z6:=K6.out.size;have z9:=k'.size;have z9':wr.heap.size<=w'.heap.size:=z9
    exact⟨rfl,⟨m',h'.mono λb e=>e.elim (λe=>e.imp id λe=>⟨e.1,by omega⟩) λe=>.inr ⟨Nat.le_trans (show w.heap.size<=wr.heap.size by omega) e.1,e.2⟩⟩,k'⟩)
   have hlt':(j:Int)<(r.2.1.length:Int):=by omega
   clear c1 c2 hb hx nb XW XA;go_wp2
   go_region_held3 (λw'=>w'.cell? ⟨b,o+j*2,none⟩=some (.int .i64 x.1)/\w'.cell? ⟨b,o+j*2+1,none⟩=some (.int .i64 x.2))
    (first|with_reducible assumption | with_reducible exact S1.out _ (ac.refl _ _) | with_reducible exact S1.out _ (by with_reducible assumption))
    (first
     | (with_reducible refine ADD.out.mono ?_; rintro e w9 ⟨rfl,⟨m9,h9⟩,k9⟩))
   rename_i dT;clear dT;have H9:=Hx h9;have K9:=Hx (K8.out.trans ((ac.refl _ _).drew.trans k9));clear h9 k9;go_wp2;go_roundw
   case rel=>exact⟨j+1,by omega,by go_num,⟨m9,H9.out⟩,K9.out⟩
   case measure=>simp[RowKit.intOf]; omega
  .have hT:r.2.1.take j=r.2.1:=List.take_of_length_le (by omega);rw[hT]at H8
   have FIN:=Hs (dS Y w M (t.order n c).1 wr) (by
    rw[E6.out.1]
    exact dS.of (H8.out.setK k E6.out.2.1 E6.out.2.2) (K6.out.trans ((K7.out.trans K8.out).mono λb e=>e▸H.out.own M (.inl rfl))))
   clear hT;go_wp2;exact bodyPost_ret (v:=.tuple #[.string ⟨#[]⟩,.int .i64 0,.int .i64 0,.int .i64 0]) (by simp[results,Tryz.results10,go_sem]) rfl ⟨by rw[E6.out.1]; rfl,FIN.out⟩
end
