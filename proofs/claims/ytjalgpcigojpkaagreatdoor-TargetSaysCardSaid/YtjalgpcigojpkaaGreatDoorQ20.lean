import Derived.Test.YtjalgpcigojpkaaGreatDoorQ19
import Derived.Test.YtjalgpcigojpkaaGreatDoorQ17
set_option maxRecDepth 99999
set_option maxHeartbeats 99999999
namespace Go.Proofs.YtjalgpcigojpkaaGreatDoor
section
open Go.RowKit
section
variable {n:Nat} {S:aw->Prop} {B:Int} {t:Tg}
inductive jB (t:Tg) (c:bG):Tg->gB->Prop where
 | no (h:ce t.k.s c.who (decide (c.op≠7))=false):jB t c t (gB.bad 4)
 | busy (h:ce t.k.s c.who (decide (c.op≠7))=true) (hm:¬ 2<=(t.g.mem t.k.ep).length):jB t c t (gB.bad 7)
 | read (h:ce t.k.s c.who (decide (c.op≠7))=true) (hm:2<=(t.g.mem t.k.ep).length) (ho:c.op=7) :
   jB t c { t with g:=t.g.read t.k.ep c.at'.toNat } ⟨(bK c.at'.toNat (t.g.frm t.k.ep)).d,0,0,0⟩
 | refused (h:ce t.k.s c.who (decide (c.op≠7))=true) (hm:2<=(t.g.mem t.k.ep).length) (ho:c.op=9) (f:Int) (hf:(t.busy c.at'=true/\f=7)\/(t.busy c.at'=false/\(bK c.at'.toNat (t.g.frm t.k.ep)).d≠c.want/\f=9)) :
   jB t c { t with g:=t.g.read t.k.ep c.at'.toNat } (gB.bad f)
 | full (h:ce t.k.s c.who (decide (c.op≠7))=true) (hm:2<=(t.g.mem t.k.ep).length) (u:Tg) (hu:(c.op=8/\u=t)\/(c.op=9/\u={ t with g:=t.g.read t.k.ep c.at'.toNat }/\t.busy c.at'=false/\(bK c.at'.toNat (t.g.frm t.k.ep)).d=c.want)):jB t c u (gB.bad 6)
 | write (h:ce t.k.s c.who (decide (c.op≠7))=true) (hm:2<=(t.g.mem t.k.ep).length) (u:Tg) (hu:(c.op=8/\u=t)\/(c.op=9/\u={ t with g:=t.g.read t.k.ep c.at'.toNat }/\t.busy c.at'=false/\(bK c.at'.toNat (t.g.frm t.k.ep)).d=c.want)) (hl:t.fly.length+3<=40) (hw:t.wait.length≠6) :
   jB t c { u with num:=t.num+1,tag:=t.tag+1,fly:=t.fly ++ [t.msg c 0,t.msg c 1,t.msg c 2],wait:=t.wait ++ [⟨t.tag+1,c.who,t.num+1,[]⟩] } ⟨⟨#[]⟩,t.tag+1,0,0⟩
theorem FV(t:Tg)(g:Gp)(a:Int):({ t with g:=g }:Tg).busy a=t.busy a:=rfl
theorem wV(h:TI n S B t){c:bG}(hf:aB c=0)(ho:7<=c.op)(hb:t.b.get c.who=[]):jB t c (t.ask n c).1 (t.ask n c).2:=by
 obtain⟨hc,Iw,-,-⟩:=dR hf;have Jt:=hc.op;unfold Tg.ask;rw[if_neg (by simp[hf]),if_neg (by rw[hb]; simp[takeN]),if_neg (by omega)];by_cases hp:ce t.k.s c.who (decide (c.op≠7))=false
 .rw[if_pos hp]; exact .no hp
 rw[if_neg hp]
 have JJ:ce t.k.s c.who (decide (c.op≠7))=true:=by simpa using hp
 have wr:∀u:Tg,((c.op=8/\u=t)\/(c.op=9/\u={ t with g:=t.g.read t.k.ep c.at'.toNat }/\t.busy c.at'=false/\(bK c.at'.toNat (t.g.frm t.k.ep)).d=c.want))->2<=(t.g.mem t.k.ep).length->jB t c (u.doWrite c).1 (u.doWrite c).2:=by
  intro u hu hm
  have e:u.wait=t.wait/\u.fly=t.fly/\u.num=t.num/\u.tag=t.tag/\u.k=t.k:=by rcases hu with⟨-,rfl⟩ | ⟨-,rfl,-⟩<;>exact⟨rfl,rfl,rfl,rfl,rfl⟩
  unfold Tg.doWrite Tg.write;rw[e.1,e.2.1];by_cases N9:t.wait.length=6\/40<t.fly.length+3
  .rw[if_pos N9];exact .full JJ hm u hu
  .rw[if_neg N9]
   have em:∀i,u.msg c i=t.msg c i:=λi=>by unfold Tg.msg; rw[e.2.2.1,e.2.2.2.1,e.2.2.2.2]
   rw[em,em,em,e.2.2.1,e.2.2.2.1];exact .write JJ hm u hu (by omega) (by omega)
 by_cases h7:c.op=7
 .rw[if_pos h7];by_cases hm:2<=(t.g.mem t.k.ep).length
  .rw[(eV h _).2 hm];exact .read JJ hm h7
  .rw[(eV h _).1 hm];exact .busy JJ hm
 rw[if_neg h7,h.isReady,h.ready];by_cases hm:2<=(t.g.mem t.k.ep).length
 .rw[if_neg (by simp[hm])];by_cases h9:c.op=9
  .rw[if_pos h9];unfold Tg.doComp;dsimp only;rw[(eV h _).2 hm];dsimp only;rw[FV];by_cases hr:(0:Int)≠0\/(bK c.at'.toNat (t.g.frm t.k.ep)).d≠c.want\/t.busy c.at'=true
   .rw[if_pos hr]
    have e:({ t with g:=t.g.read t.k.ep c.at'.toNat }:Tg).refuse 0 c.at'=if t.busy c.at' then 7 else 9:=by unfold Tg.refuse;rw[if_neg (by simp)];rfl
    rw[e];refine .refused JJ hm h9 _ ?_;cases Ix:t.busy c.at'
    .refine .inr ⟨rfl,?_,by simp⟩
     rcases hr with e | e | e
     .exact absurd rfl e
     .exact e
     .rw[Ix]at e; cases e
    .exact .inl ⟨rfl,by simp⟩
   .rw[if_neg hr]
    have h2:t.busy c.at'=false:=by
     cases Ix:t.busy c.at'
     .rfl
     .exact absurd (.inr (.inr Ix)) hr
    have h3:(bK c.at'.toNat (t.g.frm t.k.ep)).d=c.want:=by
     by_cases e:(bK c.at'.toNat (t.g.frm t.k.ep)).d=c.want
     .exact e
     .exact absurd (.inr (.inl e)) hr
    exact wr _ (.inr ⟨h9,rfl,h2,h3⟩) hm
  .rw[if_neg h9];exact wr _ (.inl ⟨by omega,rfl⟩) hm
 .rw[if_pos (by simp; omega)];exact .busy JJ hm
theorem Bl.set_get(b:Bl)(k:Int):b.set k (b.get k)=b:=by
 unfold Bl.set Bl.get
 repeat' split
 all_goals rfl
theorem uP{t:Tg}(Jq:t.b.ok){c:bG}(hf:aB c=0){x:Int}{l:List Int}(hb:t.b.get c.who=x :: l):t.ask n c=({ t with b:=t.b.set c.who l },⟨⟨#[]⟩,0,x,0⟩)/\1<=x/\x<=4:=by have hx:=Jq.num c.who x (by rw[hb]; simp);unfold Tg.ask;rw[if_neg (by simp[hf]),hb,if_pos (by show 0<x; omega)];exact⟨rfl,hx⟩
end
def Az:ByteArray:=⟨#[97,115,107]⟩
def jf:ByteArray:=⟨#[100,101,108,105,118,101,114]⟩
def tO:ByteArray:=⟨#[108,111,115,101]⟩
def oD:ByteArray:=⟨#[112,111,119,101,114]⟩
def Tg.anew(n:Nat)(t:Tg):Tg:=if (Tg.new n t.k t.g).2=0 then(Tg.new n t.k t.g).1 else t
def Tg.play(n:Nat)(t:Tg)(x:Ac):Tg :=
 if x.kind=Az then(t.ask n x.cm).1
 else if x.kind=jf then(t.deliver x.a (decide (x.b=1))).1
 else if x.kind=tO then(t.lose x.a).1
 else if x.kind=Aw\/x.kind=oG then(t.up x.a (decide (x.kind=Aw))).1
 else if x.kind=qE then(t.sync x.a).1
 else if x.kind=oD then(t.power n).1
 else t.anew n
section
variable {n:Nat} {S:aw->Prop} {B:Int} {t:Tg}
theorem TI.anew(h:TI n S B t)(hB:B+2<1000000000000000):TI n S (B+2) (t.anew n):=by
 obtain⟨n1,n2,n3⟩:=fk h hB;unfold Tg.anew;by_cases hm:2<=(t.g.mem t.k.ep).length
 .by_cases he:t.k.ep=1000000
  .rw[n3 hm he,if_neg (by decide)]; exact h.mono (by omega)
  .obtain⟨e1,d,e2,e3,e4⟩:=n1 hm he;rw[if_pos e1,e2];exact h.new hm e3 e4
 .rw[n2 hm,if_neg (by decide)]; exact h.mono (by omega)
theorem TI.play(h:TI n S B t)(hB:B+2<1000000000000000)(x:Ac):∃S',(∀x,S x->S' x)/\TI n S' (B+2) (t.play n x):=by
 have sm:∀ {u:Tg},TI n S B u->∃S',(∀x,S x->S' x)/\TI n S' (B+2) u:=λhu=>⟨S,λ_ hx=>hx,hu.mono (by omega)⟩
 unfold Tg.play
 split
 .exact h.ask hB _
 split
 .exact sm (h.deliver _ _)
 split
 .exact sm (h.lose _)
 split
 .exact sm (h.up _ _)
 split
 .exact sm (h.sync _)
 split
 .exact⟨S,λ_ hx=>hx,h.power hB⟩
 .exact⟨S,λ_ hx=>hx,h.anew hB⟩
inductive jz (t:Tg):Gp->Prop where
 | same:jz t t.g
 | up (i:Nat) (b:Bool):jz t (t.g.setU i b)
 | fence (ep:Int):jz t (t.g.fence ep)
 | read (k:Nat):jz t (t.g.read t.k.ep k)
 | sync (i:Nat) (hi:i<3):jz t (t.g.sync t.k.ep i)
 | deliver (m:Ms) (hm:m∈t.fly):jz t (t.g.deliver m.tt.toNat m.at'.toNat m.c)
theorem jB.move{c:bG}{u:Tg}{a:gB}(h:jB t c u a):jz t u.g:=by
 cases h with
 | no=>exact .same
 | busy=>exact .same
 | read=>exact .read _
 | refused=>exact .read _
 | full h hm u hu =>
  rcases hu with⟨-,rfl⟩ | ⟨-,rfl,-⟩
  .exact .same
  .exact .read _
 | write h hm u hu =>
  rcases hu with⟨-,rfl⟩ | ⟨-,rfl,-⟩
  .exact .same
  .exact .read _
theorem fh.move{c:bG}{u:Tg}{f:Int}(h:fh n t c u f):jz t u.g:=by
 cases h with
 | bad=>exact .same
 | less=>exact .fence _
 | busy=>exact .same
 | more=>exact .same
inductive wY (n:Nat) (t:Tg) (c:bG):Tg->gB->Prop where
 | bad (h:aB c≠0):wY n t c t (gB.bad (aB c))
 | told (h:aB c=0) (x:Int) (l:List Int) (hb:t.b.get c.who=x :: l) (hx:1<=x/\x<=4):wY n t c { t with b:=t.b.set c.who l } ⟨⟨#[]⟩,0,x,0⟩
 | order (h:aB c=0) (hb:t.b.get c.who=[]) (ho:c.op<=6) (u:Tg) (f:Int) (o:fh n t c u f):wY n t c u (gB.bad f)
 | block (h:aB c=0) (hb:t.b.get c.who=[]) (ho:7<=c.op) (u:Tg) (a:gB) (o:jB t c u a):wY n t c u a
theorem rn(h:TI n S B t)(hB:B+2<1000000000000000)(c:bG):wY n t c (t.ask n c).1 (t.ask n c).2:=by
 by_cases hf:aB c=0
 .cases hb:t.b.get c.who with
  | cons x l =>
   obtain⟨e,hx⟩:=uP (n:=n) h.box hf hb;rw[e];exact .told hf x l hb hx
  | nil =>
   by_cases ho:c.op<=6
   .have o:=oY h hB (dR hf).1
    have e:t.ask n c=((t.order n c).1,gB.bad (t.order n c).2):=by unfold Tg.ask;rw[if_neg (by simp[hf]),hb,if_neg (by simp[takeN]),if_pos ho]
    rw[e];exact .order hf hb ho _ _ o
   .exact .block hf hb (by omega) _ _ (wV h hf (by omega) hb)
 .have e:t.ask n c=(t,gB.bad (aB c)):=by
   unfold Tg.ask;rw[if_pos hf]
  rw[e];exact .bad hf
theorem wY.move{c:bG}{u:Tg}{a:gB}(h:wY n t c u a):jz t u.g:=by
 cases h with
 | bad=>exact .same
 | told=>exact .same
 | order _ _ _ _ _ o=>exact o.move
 | block _ _ _ _ _ o=>exact o.move
theorem jz.two(h:TI n S B t){k:Nat}(hk:k<8){was:aw}(h2:sV was k t.g){g:Gp}(m:jz t g):sV was k g:=by
 cases m with
 | same=>exact h2
 | up i b=>exact h2
 | fence ep=>exact h2.fence h.qi.ok ep
 | read k'=>exact h2.read h.fa h.al h.qi.ok _ _ hk
 | sync i hi=>exact h2.sync h.fa h.al h.qi.ok _ hi hk
 | deliver m hm =>
  have:=h.msg m hm;exact h2.deliver h.qi.ok (by omega) (by omega) _
end
end
section
open Go.RowKit Go.Sort
def Gp.lift1(epoch:Int)(h:Gp)(x:Int):Gp:=h.setR x.toNat ⟨epoch,(h.r.getD x.toNat Rp.zero).cells⟩
def Gp.liftAll(g:Gp)(epoch:Int)(l:List Int):Gp:=l.foldl (Gp.lift1 epoch) g
theorem Gp.liftAll_snoc(g:Gp)(epoch:Int)(l:List Int)(x:Int):g.liftAll epoch (l ++ [x])=Gp.lift1 epoch (g.liftAll epoch l) x:=by simp[Gp.liftAll]
theorem Gp.lift1_ok{h:Gp}(ok:h.ok)(epoch:Int){i:Nat}(hi:i<3):(Gp.lift1 epoch h i).ok:=ok.setR _ (by simpa using Gp.getR ok hi)
theorem Cc{h:Gp}{n j:Nat}{r:Rp}(hj:n≠j):(h.setR n r).r.getD j Rp.zero=h.r.getD j Rp.zero:=by simp[Gp.setR,List.getD_eq_getElem?_getD,List.getElem?_set_ne hj]
theorem mX(g:Gp)(epoch:Int)(j:Nat):∀n,n<=j->(g.fenceTo epoch n).r.getD j Rp.zero=g.r.getD j Rp.zero
 | 0,_=>rfl
 | n+1,h=>by
  have ih:=mX g epoch j n (by omega);unfold Gp.fenceTo
  split
  .rw[Cc (by omega),ih]
  .exact ih
theorem qD{h:Gp}{n:Nat}(hn:n<h.r.length):h.setR n (h.r.getD n Rp.zero)=h:=by obtain⟨r,u⟩:=h;unfold Gp.setR;simp only[Gp.mk.injEq,and_true];simp only at hn;rw[List.getD_eq_getElem?_getD,List.getElem?_eq_getElem hn,Option.getD_some,List.set_getElem_self]
theorem mR{g:Gp}(hg:g.ok)(epoch:Int):∀n,n<=3->g.liftAll epoch (g.memTo (epoch - 1) n)=g.fenceTo epoch n
 | 0,_=>rfl
 | n+1,hn=>by
  have ih:=mR hg epoch n (by omega);have hr:=mX g epoch n n (Nat.le_refl _);have ok:=Gp.fenceTo_ok hg epoch n (by omega);rw[Gp.mem_succ];unfold Gp.fenceTo;by_cases hu:g.u.getD n false=true
  .by_cases hf:(g.r.getD n Rp.zero).floor=epoch - 1
   .rw[if_pos (by unfold Gp.isM; rw[hu,hf]; simp),Gp.liftAll_snoc,ih,if_pos hu];unfold Gp.lift1 Rp.fence;rw[Int.toNat_natCast,hr,if_pos hf]
   .rw[if_neg (by unfold Gp.isM; rw[decide_eq_false hf]; simp),List.append_nil,ih,if_pos hu];unfold Rp.fence;rw[hr,if_neg hf,<-hr,qD (by rw[ok.r3]; omega)]
  .rw[if_neg (by unfold Gp.isM; rw[Bool.eq_false_iff.2 hu]; simp),List.append_nil,ih,if_neg hu]
def Gp.some(g:Gp)(l:List Int):List Rp:=l.map (λx=>g.r.getD x.toNat Rp.zero)
theorem Gp.some_frm(g:Gp)(epoch:Int):g.some (g.mem epoch)=g.frm epoch:=rfl
def upTo (m:List aw)(j:Nat):List aw:=m.take j ++ du.drop j
theorem tf{m:List aw}(h:m.length=8){j:Nat}(hj:j<=8):(upTo m j).length=8:=by unfold upTo du; simp; omega
theorem Ab{m:List aw}(h:m.length=8){j:Nat}(hj:j<8):(upTo m j).set j (m.getD j aw.zero)=upTo m (j+1):=by
 unfold upTo
 have e:du.drop j=aw.zero :: du.drop (j+1):=by unfold du; simp only[List.drop_replicate];rw[show 8 - j=(8 - (j+1))+1 from by omega]; rfl
 have hl:j<m.length:=by omega
 rw[e,List.set_append,if_neg (by simp; omega),show j - (m.take j).length=0 from by simp; omega,List.set_cons_zero,List.take_succ_eq_append_getElem hl,List.getD_eq_getElem?_getD,List.getElem?_eq_getElem hl,List.append_assoc];rfl
theorem Ad{m:List aw}(h:m.length=8):upTo m 8=m:=by unfold upTo du;rw[List.take_of_length_le (by omega)]; simp
theorem yc(m:List aw):upTo m 0=du:=by simp[upTo]
theorem fN(g:Gp)(epoch:Int)(G:Nat)(w:World)(hg:g.ok)(h:w.heap[G]?=some (.cells g.arr 97 (0,0))) : Calls Tryz.prog 108 #[.pointer (some ⟨G,0,none⟩),.int .i64 epoch] w λe w'=>∃a c,e=.returned (.slice a (g.mem epoch).length c)/\bh w.heap.size w' (.slice a (g.mem epoch).length c) (g.mem epoch)/\Below w.heap.size w w':=by
 have OK:=Hx hg;have HG:=Hx h
 have lB:G<w.heap.size:=(Gl h)
 clear hg h;go_enter Tryz.func108,Tryz.ntmps108
 go_wp2;go_loopw [5,6] (λv i wr=>∃k:Nat,k<=3/\i=.int .i64 k/\bh w.heap.size wr v (g.memTo epoch k)/\Below w.heap.size w wr) (λ_ i _=>3 - (intOf i).toNat)
 case atStart=>exact⟨0,by omega,rfl,⟨rfl,.inl ⟨rfl,rfl⟩⟩,Below.refl _ _⟩
 case round =>
  obtain⟨k,hk,rfl,hO,hB⟩:=hrel;obtain⟨L,hL⟩:=Nm (g.memTo epoch k);rw[hL]at hO;obtain⟨av,cv,rfl,-⟩:=hO.shape;have hLk:L.length<=k:=hL▸g.mem_len epoch k;obtain⟨n,hn⟩:=Nm L.length;have Nz:=Hx hn;have HL:=Hx hL;rw[hn]at hLk hO ⊢;have HO:=Hx hO;have HX:=Hx ((hB.block _ lB).trans HG.out);have HZ:=Hx hB;clear hO hB hn hL;by_cases Jo:k<3
  .have IE:k<g.r.length:=by rw[OK.out.r3]; exact Jo
   have Lx:k<g.u.length:=by rw[OK.out.u3]; exact Jo
   obtain⟨u0,-⟩:=ju HX.out OK.out Lx;obtain⟨f0,-⟩:=ee HX.out OK.out IE;obtain⟨U,hU⟩:=Nm (g.u[k]);obtain⟨F,hF⟩:=Nm (g.r[k].floor);rw[hU]at u0;rw[hF]at f0;have HM:=Hs (g.isM epoch k=(U && decide (F=epoch))) (by unfold Gp.isM; rw[<-hU,<-hF]; simp[Lx,IE]);have HSU:=Hx (g.mem_succ epoch k);clear hU hF IE Lx;cases U
   .have HE:=Hs (g.memTo epoch (k+1)=L) (by rw[HSU.out,HM.out,HL.out]; simp);clear f0;go_wp2;go_roundw
    case rel=>exact⟨k+1,by omega,by go_num,by rw[HE.out]; exact HO.out,HZ.out⟩
    case measure=>simp[intOf]; omega
   .by_cases hF:F=epoch
    .have eb:(F == epoch)=true:=by simp[hF]
     have HE:=Hs (g.memTo epoch (k+1)=L ++ [(k:Int)]) (by rw[HSU.out,HM.out,HL.out]; simp[hF]);clear hF;obtain⟨i0,hi,Ij,Ii,Im⟩:=info_parts Tryz.infoInt
     have OW:=Hx (λo=>show(wr.alloc o).ownsRow w.heap.size 3 1 (.slice av n cv) n (L.map (Value.int .i64)) from by
      have:=HO.out.below (ay wr o);unfold bh at this
      rwa [Nz.out]at this)
     go_wp2_with (at_builtin; refine wpList_append_own _ rfl _ _ 71 rfl w.heap.size 3 i0 (.int .i64 0) 1 8 Tryz.underlying71 hi Ij Ii Im rfl (by decide) _ _ _ rfl (OW.out _) ⟨wr.heap.size,0,none⟩ 1 1 [.int .i64 k] rfl rfl ?c1 ?c2 ?c3 ?c4 ?c5 ?_)
     case c1 =>
      intro j u hj
      match j,hj with
      | 0,hj=>simp at hj; subst hj; simp[Addr.add]
     case c2=>intro u hu; simp at hu; subst hu; rfl
     case c3=>unfold maxLen; omega
     case c4=>omega
     case c5=>exact Nat.le_trans HZ.out.size (ay wr _).size
     intro v' w7 jZ Il _;have HN:=Hs (bh w.heap.size w7 v' (g.memTo epoch (k+1))) (by rw[HE.out]; simpa[bh,Nz.out] using jZ);have HZ7:=Hx ((HZ.out.trans ((ay wr _).mono HZ.out.size)).grown Il (Nat.le_trans HZ.out.size (ay wr _).size) (λm hm=>by have:=HO.out.blk m hm; omega));clear jZ Il;go_wp2;go_roundw
     case rel=>exact⟨k+1,by omega,by go_num,HN.out,HZ7.out⟩
     case measure=>simp[intOf]; omega
    .have eb:(F == epoch)=false:=by simp[hF]
     have HE:=Hs (g.memTo epoch (k+1)=L) (by rw[HSU.out,HM.out,HL.out]; simp[hF]);clear hF;go_wp2;go_roundw
     case rel=>exact⟨k+1,by omega,by go_num,by rw[HE.out]; exact HO.out,HZ.out⟩
     case measure=>simp[intOf]; omega
  .obtain rfl:k=3:=by omega
   have HLL:=Hs (g.mem epoch=L) HL.out;go_wp2;go_ret;exact⟨av,cv,by rw[HLL.out,Nz.out]; rfl,by rw[HLL.out,Nz.out]; exact HO.out,HZ.out⟩
structure PG (w:World) (G:Nat) (h:Gp) (wx:World):Prop where
 keeps:ac (·=G) w wx
 ok:h.ok
 hG:wx.heap[G]?=some (.cells h.arr 97 (0,0))
theorem PG.lt{w wx:World}{G:Nat}{h:Gp}(f:PG w G h wx):G<wx.heap.size:=(Gl f.hG)
theorem PG.over{w wx w':World}{G:Nat}{h:Gp}(f:PG w G h wx)(b:Below wx.heap.size wx w'):PG w G h w' :=
 ⟨f.keeps.trans (ac.of_below b),f.ok,(b.block _ f.lt).trans f.hG⟩
theorem PG.setF{w wx:World}{G:Nat}{h:Gp}(f:PG w G h wx){i:Nat}(hi:i<3)(e:Int):PG w G (Gp.lift1 e h i) (wx.setCell ⟨G,i*25,none⟩ (.int .i64 e)):=by
 have Ju:i<h.r.length:=by rw[f.ok.r3]; exact hi
 refine⟨f.keeps.setCell (p:=⟨G,i*25,none⟩) rfl _,Gp.lift1_ok f.ok e hi,?_⟩;have:=Eo f.hG f.ok Ju e;unfold Gp.lift1;rw[Int.toNat_natCast,List.getD_eq_getElem?_getD,List.getElem?_eq_getElem Ju];exact this
theorem lD{g:Gp}{ep:Int}(j:Nat)(h:j<(g.mem ep).length):∃i:Nat,i<3/\(g.mem ep)[j]=(i:Int):=by obtain⟨i',e,h3,-⟩:=Gp.mem_lt (List.getElem_mem h);exact⟨i',h3,e⟩
theorem tZ(g:Gp)(epoch:Int)(G:Nat)(w:World)(hg:g.ok)(he:-4611686018427387904<=epoch/\epoch<=4611686018427387904)(h:w.heap[G]?=some (.cells g.arr 97 (0,0))) : Calls Tryz.prog 107 #[.pointer (some ⟨G,0,none⟩),.int .i64 epoch] w λe w'=>e=.returned (.bool (decide (2<=((g.fence epoch).mem epoch).length)))/\PG w G (g.fence epoch) w':=by
 have F0:=Hs (PG w G g w) (⟨ac.refl _ _,hg,h⟩);have q1:IntKind.i64.wrap (epoch - 1)=epoch - 1:=IntWalk.i64_in _ (by omega);clear hg h;go_enter Tryz.func107,Tryz.ntmps107
 go_wp2_with fail;refine(fN g _ G _ F0.out.ok F0.out.hG).mono ?_;rintro e w2 ⟨a2,c2,rfl,ec,b2⟩;have F2:=Hx (F0.out.over b2);have HI:=Hx ec.hi;have hsz:=Hx b2.size;obtain⟨m,hm⟩:=Nm ((g.mem (epoch - 1)).length);rw[hm];have HM:=Hx hm;have hm3:m<=3:=hm▸g.mem_len (epoch - 1) 3;clear hm b2 ec;obtain⟨B,hB⟩:=Nm (decide ((2:Int)<=(m:Int)));have Kt:=Hx hB;go_upto_if 13 with fail;clear hB;go_cut [13] (λ_ wx=>PG w G (g.fence epoch) wx)
 case first =>
  cases B
  .have HF:=Hs (g.fence epoch=g) (if_neg (by rw[HM.out]; have:=Kt.out; simp at this; omega));go_wp2;go_meet;rw[HF.out];exact F2.out
  .have HF:=Hs (g.fence epoch=g.liftAll epoch (g.mem (epoch - 1))) ((if_pos (by rw[HM.out]; have:=Kt.out; simp at this; omega)).trans (mR F0.out.ok epoch 3 (Nat.le_refl _)).symm);have hGlt:=Hs (G<w.heap.size) F0.out.lt;go_wp2;go_loopw [6,14] (λi _ wr=>∃k:Nat,k<=m/\i=.int .i64 k/\PG w G (g.liftAll epoch ((g.mem (epoch - 1)).take k)) wr/\ac (·=G) w2 wr) (λi _ _=>m - (intOf i).toNat)
   case atStart=>exact⟨0,by omega,rfl,F2.out,ac.refl _ _⟩
   case round =>
    obtain⟨k,hk,rfl,pg,kp⟩:=hrel;obtain⟨h,hh⟩:=Nm (g.liftAll epoch ((g.mem (epoch - 1)).take k));rw[hh]at pg;have PGH:=Hx pg;have KP:=Hx kp;have HH:=Hx hh;clear pg kp hh F2;by_cases hkm:k<m
    .obtain⟨i',h3,hx⟩:=lD k (show k<(g.mem (epoch - 1)).length by rw[HM.out]; exact hkm);obtain⟨bb,oo,rfl,NQ,Ko,wU⟩:=HI.out k (by rw[HM.out]; exact hkm)
     have I0:=Hs (g.liftAll epoch ((g.mem (epoch - 1)).take (k+1))=Gp.lift1 epoch h (i':Int)) (by rw[List.take_succ_eq_append_getElem (by rw[HM.out]; exact hkm),Gp.liftAll_snoc,HH.out,hx])
     rw[hx]at wU;have c0:=(KP.out.cell (b:=bb) (o:=oo+k) (by have:=hGlt.out; omega) Ko).trans wU
     have h3i:(i':Int)<3:=by omega
     obtain⟨f0,f1⟩:=ee PGH.out.hG PGH.out.ok (i:=i') (by rw[PGH.out.ok.r3]; exact h3);have PS:=Hx (PGH.out.setF h3 epoch);have KS:=Hx (KP.out.setCell (p:=⟨G,i'*25,none⟩) rfl (.int .i64 epoch));clear hx wU;go_wp2;go_region;go_wp2;go_roundw
     case rel=>exact⟨k+1,by omega,by go_num,by rw[I0.out]; exact PS.out.over (Below.refl _ _).drew,KS.out.drew⟩
     case measure=>simp[intOf]; omega
    .obtain rfl:k=m:=by omega
     rw[List.take_of_length_le (by rw[HM.out]; exact Nat.le_refl _)]at HH;go_wp2;go_meet;rw[HF.out,HH.out];exact PGH.out
 case rest =>
  obtain⟨Y,hY⟩:=Nm (g.fence epoch);rw[hY]at hcut;have FC:=Hx hcut;have HY:=Hx hY;clear hcut F2 hY;go_wp2_with fail;refine(fN Y epoch G _ FC.out.ok FC.out.hG).mono ?_;rintro e w7 ⟨a7,c7,rfl,-,b7⟩;have F7:=Hx (FC.out.over b7);obtain⟨n,hn⟩:=Nm ((Y.mem epoch).length);rw[hn];have HN:=Hx hn;clear hn b7 FC;go_wp2;go_ret;rw[HY.out,HN.out];exact⟨by simp; omega,F7.out⟩
end
section
open Go.RowKit
def gx(T:TypeId)(q:Nat)(cs:Array Value)(a:Option Addr)(c:Nat)(l:List Int)(M k:Nat)(what:Int)(w:World)(e:Ending)(w':World):Prop :=
 ∃s:Sl,e=.returned (.tuple #[])/\s.ok w'/\s.l=ia l what/\(∀x,s.a=some x->x.block≠M)/\w'.heap[M]?=some (.cells (cs.setIfInBounds (q+k) s.v) T (0,0))/\ac (·=M) w w'/\(s=⟨a,l,c⟩\/fB w.heap.size w' s.a s.l)
theorem zC{T:TypeId}{q:Nat}{cs:Array Value}{l:List Int}{M k:Nat}{what:Int}{w w':World}{a:Option Addr}{c:Nat}(o:Sl.ok ⟨a,l,c⟩ w)(hM:w.heap[M]?=some (.cells cs T (0,0)))(Iu:cs[q+k]?=some (.slice a l.length c))(Ik:∀x,a=some x->x.block≠M)(hl:l=ia l what)(hb:Below w.heap.size w w'):gx T q cs a c l M k what w (.returned (.tuple #[])) w' :=
 ⟨⟨a,l,c⟩,rfl,o.below hb,hl,Ik,by rw[set_self Iu,hb.block M (Gl hM)]; exact hM,ac.of_below hb,.inl rfl⟩
theorem pH{T:TypeId}{q:Nat}{cs:Array Value}{a:Option Addr}{c:Nat}{l l':List Int}{M k:Nat}{what:Int}{w w2 w':World}{o:Obj}{P:Prop}{a':Option Addr}{c' B:Nat}{v:Value}(hM:w.heap[M]?=some (.cells cs T (0,0)))(hS:Below (w.heap.size+1) (w.alloc o) w2/\P)(ec:fB B w2 a' l')(hB:B=w.heap.size+1)(hv:v=.slice a' l'.length c')(hl:l'=ia l what)(h5:l'.length<=5)(hc:l'.length<=c')(ha:∀x,a'=some x->x.block≠M)(hw:w'=(w2.setCell ⟨M,q+k,none⟩ v).drew):gx T q cs a c l M k what w (.returned (.tuple #[])) w':=by
 have lB:M<w.heap.size:=(Gl hM)
 have JR:Below w.heap.size w w2:=(ay w o).trans (hS.1.mono (by omega))
 have kp:ac (·=M) w2 w':=by rw[hw]; exact ac.drew (ac.setCell (S:=(·=M)) (ac.refl _ _) rfl _)
 have hk:=ec.keeps kp (λk hk=>by omega);refine⟨⟨a',l',c'⟩,rfl,⟨hk.ints,h5,hc⟩,hl,ha,?_,(ac.of_below JR).trans kp,.inr (hk.mono (by omega))⟩;rw[hw,hv];exact block_setCell ((JR.block M lB).trans hM) _
theorem wO(x:Int)(t:List Int)(a:Option Addr)(c M q k:Nat)(T:TypeId)(cs:Array Value)(what:Int)(w:World)(ok:Sl.ok ⟨a,x :: t,c⟩ w)(hM:w.heap[M]?=some (.cells cs T (0,0)))(hk:k<4)
  (Iu:cs[q+k]?=some (.slice a (t.length+1) c)) (Ik:∀x,a=some x->x.block≠M) (y:Int) (hy:(x :: t)[t.length]'(by simp)=y) (hyb:(y == what)=false) (h3:t.length<=3) :
  Calls Tryz.prog 55 #[.pointer (some ⟨M,q,none⟩),.agg #[.int .i64 ((k:Int)+1),.int .i64 what]] w (gx T q cs a c (x :: t) M k what w):=by
 obtain⟨i0,hi,Ij,Ii,Im⟩:=info_parts Tryz.infoInt;obtain⟨d0,f0⟩:=cells_at hM Iu
 have lB:M<w.heap.size:=(Gl hM)
 have INTS:=Hx ok.ints;have LAST:=Hx hy;obtain⟨b',o',rfl,Ix,cl⟩:=ok.ints t.length (by simp);have hbM:=Ik _ rfl;rw[hy]at cl
 have e3':IntKind.i64.wrap ((k:Int)+1 - 1)=(k:Int):=by rw[IntWalk.i64_in _ (by omega)]; omega
 have e4':(k:Int)+1 - 1=(k:Int):=by omega
 have e1':IntKind.i64.wrap ((t.length:Int)+1 - 1)=(t.length:Int):=by rw[IntWalk.i64_in _ (by omega)]; omega
 have e2':(t.length:Int)+1 - 1=(t.length:Int):=by omega
 have HM:=Hx hM;clear hM Ik hy ok Iu;go_enter Tryz.func55,Tryz.ntmps55
 go_wp2;go_quiet (fail)
 go_wp2;go_quiet (fail)
 go_wp2
 have c0:(w.alloc (.cells #[.int .i64 ((k:Int)+1),.int .i64 what] 120)).cell? ⟨w.heap.size,1,none⟩=some (.int .i64 what):=by simp
 go_region_held3 (λw'=>Below (w.heap.size+1) (w.alloc (.cells #[.int .i64 ((k:Int)+1),.int .i64 what] 120)) w'/\w'.cell? ⟨w.heap.size,1,none⟩=some (.int .i64 what))
  ((refine Fh ?_; repeat(first|with_reducible exact Below.refl _ _ | with_reducible exact And.left (by with_reducible assumption) | with_reducible refine Below.drew ?_ | with_reducible refine below_drewN ?_ _ | exact Below.grown (And.left (by assumption)) Jh (ey (by assumption)) (by rintro k ⟨⟩) | exact Below.grown (And.left (by assumption)) IJ (ey (by assumption)) (by rintro k ⟨⟩; exact oV jZ) | exact Below.alloc (And.left (by assumption)) (ey (by assumption)) _ | with_reducible refine Below.alloc ?_ (by simp[World.drewN]) _)))
  (first
   | (refine step_append_lies _ (by rfl) _ _ _ (by rfl) (w.heap.size+1) 3 i0 _ 1 8 Tryz.underlying71 hi Ij Ii Im rfl (by omega) (.slice none 0 0) 0 [] (by rfl) (rV _ _) ⟨b',o',none⟩ (t.length+1) c ((x :: t).map (Value.int .i64)) (by rfl) (by simp) (kH (Av INTS.out (by assumption))) (jr _) (by omega) (by unfold maxLen; omega) (by omega) (ey (by assumption)) _ rfl ?_; intro g1 cap1 w1 jZ Jh hat1 hlt1; simp only[Nat.zero_add,List.nil_append]at jZ ⊢)
   | (refine step_append_lies _ (by rfl) _ _ _ (by rfl) (w.heap.size+1) 3 i0 _ 1 8 Tryz.underlying71 hi Ij Ii Im rfl (by omega) (.slice (some ⟨g1,0,none⟩) (t.length+1) cap1) (t.length+1) ((x :: t).map (Value.int .i64)) (by rfl) (jZ.alloc _) ⟨w1.heap.size,0,none⟩ 1 1 [.int .i64 what] (by rfl) (by simp) (jo (iv w1 _ _)) (by simp[Value.oneCell']) (by omega) (by unfold maxLen; omega) (by omega) (ey (by assumption)) _ rfl ?_; intro g2 cap2 w2 Ig IJ hat2 MU)
   | (refine step_append_lies _ (by rfl) _ _ _ (by rfl) (w.heap.size+1) 3 i0 _ 1 8 Tryz.underlying71 hi Ij Ii Im rfl (by omega) (.slice (some ⟨g1,0,none⟩) (t.length+1) cap1) (t.length+1) ((x :: t).map (Value.int .i64)) (by rfl) jZ ⟨w.heap.size+1,0,none⟩ 1 1 [.int .i64 what] (by rfl) (by simp) (jo (Jh.cell (sL _ _ _ (by simp[World.drewN])) (by simp[Value.ownBlock]))) (by simp[Value.oneCell']) (by omega) (by unfold maxLen; omega) (by omega) (ey (by assumption)) _ rfl ?_; intro g2 cap2 w2 Ig IJ hat2 MU))
 all_goals
  have JM:Below (w.heap.size+1) (w.alloc (.cells #[.int .i64 ((k:Int)+1),.int .i64 what] 120)) w2/\w2.cell? ⟨w.heap.size,1,none⟩=some (.int .i64 what):=by assumption
  obtain⟨IF,Lo⟩:=rT Ig;have Ja:=oV Ig;have HS:=Hx JM;have HH:=Hx Lo;have e0:=HS.out.1.cell (p:=⟨w.heap.size,0,none⟩) (Nat.lt_succ_self _);simp at e0
  have dd:w2.cell? ⟨M,q+k,none⟩=some (.slice (some ⟨b',o',none⟩) (t.length+1) c):=by rw[JM.1.cell (p:=⟨M,q+k,none⟩) (by show M<w.heap.size+1; omega),(ay w _).cell (p:=⟨M,q+k,none⟩) lB]; exact d0
  have ff:w2.frozen? ⟨M,q+k,none⟩=false:=by rw[JM.1.frozen (p:=⟨M,q+k,none⟩) (by show M<w.heap.size+1; omega),(ay w _).frozen (p:=⟨M,q+k,none⟩) lB]; exact f0
  clear JM Ig IJ jZ Jh Lo;go_wp2;go_region;go_wp2;go_end0;exact pH (l':=(x :: t) ++ [what]) (c':=cap2) HM.out HS.out HH.out rfl (by simp) (pL (x :: t) what t.length rfl (by rw[LAST.out]; simpa using hyb) (by simp; omega)).symm (by simp; omega) (by simp; omega) (by rintro _ ⟨⟩; show g2≠M; omega) rfl
theorem zD(x p y2 r s:Int)(a:Option Addr)(c M q k:Nat)(T:TypeId)(cs:Array Value)(what:Int)(w:World)(ok:Sl.ok ⟨a,[x,p,y2,r,s],c⟩ w)(hM:w.heap[M]?=some (.cells cs T (0,0)))(hk:k<4)
  (Iu:cs[q+k]?=some (.slice a (5) c)) (Ik:∀x,a=some x->x.block≠M) (y:Int) (hy:([x,p,y2,r,s])[4]'(by simp)=y) (hyb:(y == what)=false) :
  Calls Tryz.prog 55 #[.pointer (some ⟨M,q,none⟩),.agg #[.int .i64 ((k:Int)+1),.int .i64 what]] w (gx T q cs a c ([x,p,y2,r,s]) M k what w):=by
 obtain⟨i0,hi,Ij,Ii,Im⟩:=info_parts Tryz.infoInt;obtain⟨d0,f0⟩:=cells_at hM Iu
 have lB:M<w.heap.size:=(Gl hM)
 have INTS:=Hx ok.ints;have LAST:=Hx hy;obtain⟨b',o',rfl,Ix,cl⟩:=ok.ints 4 (by simp);have hbM:=Ik _ rfl;rw[hy]at cl
 have e3':IntKind.i64.wrap ((k:Int)+1 - 1)=(k:Int):=by rw[IntWalk.i64_in _ (by omega)]; omega
 have e4':(k:Int)+1 - 1=(k:Int):=by omega
 have HM:=Hx hM;clear hM Ik hy ok Iu;go_enter Tryz.func55,Tryz.ntmps55
 go_wp2;go_quiet (fail)
 go_wp2;go_quiet (fail)
 go_wp2
 have c0:(w.alloc (.cells #[.int .i64 ((k:Int)+1),.int .i64 what] 120)).cell? ⟨w.heap.size,1,none⟩=some (.int .i64 what):=by simp
 go_region_held3 (λw'=>Below (w.heap.size+1) (w.alloc (.cells #[.int .i64 ((k:Int)+1),.int .i64 what] 120)) w'/\w'.cell? ⟨w.heap.size,1,none⟩=some (.int .i64 what))
  ((refine Fh ?_; repeat(first|with_reducible exact Below.refl _ _ | with_reducible exact And.left (by with_reducible assumption) | with_reducible refine Below.drew ?_ | with_reducible refine below_drewN ?_ _ | exact Below.grown (And.left (by assumption)) Jh (ey (by assumption)) (by rintro k ⟨⟩) | exact Below.grown (And.left (by assumption)) IJ (ey (by assumption)) (by rintro k ⟨⟩; exact oV jZ) | exact Below.alloc (And.left (by assumption)) (ey (by assumption)) _ | with_reducible refine Below.alloc ?_ (by simp[World.drewN]) _)))
  (first
   | (refine step_append_lies _ (by rfl) _ _ _ (by rfl) (w.heap.size+1) 3 i0 _ 1 8 Tryz.underlying71 hi Ij Ii Im rfl (by omega) (.slice none 0 0) 0 [] (by rfl) (rV _ _) ⟨b',o',none⟩ (5) c (([x,p,y2,r,s]).map (Value.int .i64)) (by rfl) (by simp) (kH (Av INTS.out (by assumption))) (jr _) (by omega) (by unfold maxLen; omega) (by omega) (ey (by assumption)) _ rfl ?_; intro g1 cap1 w1 jZ Jh hat1 hlt1; simp only[Nat.zero_add,List.nil_append]at jZ ⊢)
   | (refine step_append_lies _ (by rfl) _ _ _ (by rfl) (w.heap.size+1) 3 i0 _ 1 8 Tryz.underlying71 hi Ij Ii Im rfl (by omega) (.slice (some ⟨g1,0,none⟩) (5) cap1) (5) (([x,p,y2,r,s]).map (Value.int .i64)) (by rfl) (jZ.alloc _) ⟨w1.heap.size,0,none⟩ 1 1 [.int .i64 what] (by rfl) (by simp) (jo (iv w1 _ _)) (by simp[Value.oneCell']) (by omega) (by unfold maxLen; omega) (by omega) (ey (by assumption)) _ rfl ?_; intro g2 cap2 w2 Ig IJ hat2 MU)
   | (refine step_append_lies _ (by rfl) _ _ _ (by rfl) (w.heap.size+1) 3 i0 _ 1 8 Tryz.underlying71 hi Ij Ii Im rfl (by omega) (.slice (some ⟨g1,0,none⟩) (5) cap1) (5) (([x,p,y2,r,s]).map (Value.int .i64)) (by rfl) jZ ⟨w.heap.size+1,0,none⟩ 1 1 [.int .i64 what] (by rfl) (by simp) (jo (Jh.cell (sL _ _ _ (by simp[World.drewN])) (by simp[Value.ownBlock]))) (by simp[Value.oneCell']) (by omega) (by unfold maxLen; omega) (by omega) (ey (by assumption)) _ rfl ?_; intro g2 cap2 w2 Ig IJ hat2 MU))
 all_goals
  have JM:Below (w.heap.size+1) (w.alloc (.cells #[.int .i64 ((k:Int)+1),.int .i64 what] 120)) w2/\w2.cell? ⟨w.heap.size,1,none⟩=some (.int .i64 what):=by assumption
  obtain⟨IF,Lo⟩:=rT Ig;have Ja:=oV Ig;have HS:=Hx JM;have HH:=Hx Lo;have e0:=HS.out.1.cell (p:=⟨w.heap.size,0,none⟩) (Nat.lt_succ_self _);simp at e0
  have dd:w2.cell? ⟨M,q+k,none⟩=some (.slice (some ⟨b',o',none⟩) (5) c):=by rw[JM.1.cell (p:=⟨M,q+k,none⟩) (by show M<w.heap.size+1; omega),(ay w _).cell (p:=⟨M,q+k,none⟩) lB]; exact d0
  have ff:w2.frozen? ⟨M,q+k,none⟩=false:=by rw[JM.1.frozen (p:=⟨M,q+k,none⟩) (by show M<w.heap.size+1; omega),(ay w _).frozen (p:=⟨M,q+k,none⟩) lB]; exact f0
  clear JM Ig IJ jZ Jh Lo;go_wp2;go_region;go_wp2;go_end0;exact pH (l':=[p,y2,r,s,what]) (c':=cap2 - 1) HM.out HS.out (fB.tail (x:=x) (t:=[p,y2,r,s,what]) HH.out) rfl (by simp) (pM [x,p,y2,r,s] what 4 rfl (by rw[LAST.out]; simpa using hyb)).symm (by simp) (by simp; omega) (by rintro _ ⟨⟩; show g2≠M; omega) rfl
theorem EC(x:Int)(t:List Int)(a:Option Addr)(c M q k:Nat)(T:TypeId)(cs:Array Value)(what:Int)(w:World)(ok:Sl.ok ⟨a,x :: t,c⟩ w)(hM:w.heap[M]?=some (.cells cs T (0,0)))(hk:k<4)
  (Iu:cs[q+k]?=some (.slice a (t.length+1) c)) (Ik:∀x,a=some x->x.block≠M) (hy:(x :: t)[t.length]'(by simp)=what) :
  Calls Tryz.prog 55 #[.pointer (some ⟨M,q,none⟩),.agg #[.int .i64 ((k:Int)+1),.int .i64 what]] w (gx T q cs a c (x :: t) M k what w):=by
 have hl:t.length+1<=5:=ok.len;obtain⟨d0,f0⟩:=cells_at hM Iu
 have lB:M<w.heap.size:=(Gl hM)
 have FIN:=Hx (λ(w':World) (hb:Below w.heap.size w w')=>zC (what:=what) ok hM Iu Ik (rq (x :: t) what t.length rfl hy).symm hb);obtain⟨b',o',rfl,Ix,cl⟩:=ok.ints t.length (by simp);rw[hy]at cl
 have e3':IntKind.i64.wrap ((k:Int)+1 - 1)=(k:Int):=by rw[IntWalk.i64_in _ (by omega)]; omega
 have e4':(k:Int)+1 - 1=(k:Int):=by omega
 have e1':IntKind.i64.wrap ((t.length:Int)+1 - 1)=(t.length:Int):=by rw[IntWalk.i64_in _ (by omega)]; omega
 have e2':(t.length:Int)+1 - 1=(t.length:Int):=by omega
 clear hM Ik hy ok Iu;go_enter Tryz.func55,Tryz.ntmps55
 go_wp2;go_quiet (fail)
 go_wp2;go_quiet (fail)
 go_wp2;exact bodyPost_ret (v:=.tuple #[]) (by simp[results,Tryz.results55,go_sem]) rfl (FIN.out _ (below_drewN (below_drewN (ay w _) _) _))
theorem CP(a:Option Addr)(c M q k:Nat)(T:TypeId)(cs:Array Value)(what:Int)(w:World)(hM:w.heap[M]?=some (.cells cs T (0,0)))(hk:k<4)(Iu:cs[q+k]?=some (.slice a 0 c)) : Calls Tryz.prog 55 #[.pointer (some ⟨M,q,none⟩),.agg #[.int .i64 ((k:Int)+1),.int .i64 what]] w (gx T q cs a c [] M k what w):=by
 obtain⟨i0,hi,Ij,Ii,Im⟩:=info_parts Tryz.infoInt;obtain⟨d0,f0⟩:=cells_at hM Iu
 have lB:M<w.heap.size:=(Gl hM)
 have e3':IntKind.i64.wrap ((k:Int)+1 - 1)=(k:Int):=by rw[IntWalk.i64_in _ (by omega)]; omega
 have e4':(k:Int)+1 - 1=(k:Int):=by omega
 have HM:=Hx hM;clear hM Iu;go_enter Tryz.func55,Tryz.ntmps55
 go_wp2;go_quiet (fail)
 go_wp2;go_quiet (fail)
 go_wp2
 have c0:(w.alloc (.cells #[.int .i64 ((k:Int)+1),.int .i64 what] 120)).cell? ⟨w.heap.size,1,none⟩=some (.int .i64 what):=by simp
 go_region_held3 (λw'=>Below (w.heap.size+1) (w.alloc (.cells #[.int .i64 ((k:Int)+1),.int .i64 what] 120)) w'/\w'.cell? ⟨w.heap.size,1,none⟩=some (.int .i64 what))
  ((refine Fh ?_; repeat(first|with_reducible exact Below.refl _ _ | with_reducible exact And.left (by with_reducible assumption) | with_reducible refine Below.drew ?_ | with_reducible refine below_drewN ?_ _ | exact Below.grown (And.left (by assumption)) IJ (ey (by assumption)) (by rintro k ⟨⟩) | exact Below.alloc (And.left (by assumption)) (ey (by assumption)) _ | with_reducible refine Below.alloc ?_ (by simp[World.drewN]) _)))
  (first
   | (refine mb _ _ (by rfl) _ _ _ (by rfl) 3 i0 Tryz.underlying71 hi a c (by rfl) (by rfl) ?_)
   | (refine step_append_lies _ (by rfl) _ _ _ (by rfl) (w.heap.size+1) 3 i0 _ 1 8 Tryz.underlying71 hi Ij Ii Im rfl (by omega) (.slice none 0 0) 0 (([]:List Int).map (Value.int .i64)) (by rfl) (rV _ _) ⟨w.heap.size+1,0,none⟩ 1 1 [.int .i64 what] (by rfl) (by simp) (jo (sL _ _ _ (by simp[World.drewN]))) (by simp[Value.oneCell']) (by omega) (by unfold maxLen; omega) (by omega) (ey (by assumption)) _ rfl ?_; intro g2 cap2 w2 Ig IJ hat2 MU))
 all_goals
  have JM:Below (w.heap.size+1) (w.alloc (.cells #[.int .i64 ((k:Int)+1),.int .i64 what] 120)) w2/\w2.cell? ⟨w.heap.size,1,none⟩=some (.int .i64 what):=by assumption
  have NH:w2.ownsRow (w.heap.size+1) 3 1 (.slice (some ⟨g2,0,none⟩) 1 cap2) 1 (([]:List Int).map (Value.int .i64) ++ [.int .i64 what]):=Ig;obtain⟨IF,Lo⟩:=rT NH;have Ja:=oV Ig;have HS:=Hx JM;have HH:=Hx Lo;have e0:=HS.out.1.cell (p:=⟨w.heap.size,0,none⟩) (Nat.lt_succ_self _);simp at e0
  have dd:w2.cell? ⟨M,q+k,none⟩=some (.slice a 0 c):=by rw[JM.1.cell (p:=⟨M,q+k,none⟩) (by show M<w.heap.size+1; omega),(ay w _).cell (p:=⟨M,q+k,none⟩) lB]; exact d0
  have ff:w2.frozen? ⟨M,q+k,none⟩=false:=by rw[JM.1.frozen (p:=⟨M,q+k,none⟩) (by show M<w.heap.size+1; omega),(ay w _).frozen (p:=⟨M,q+k,none⟩) lB]; exact f0
  clear JM Ig NH IJ Lo;go_wp2;go_region;go_wp2;go_end0;exact pH (l':=[what]) (c':=cap2) HM.out HS.out HH.out rfl (by simp) rfl (by simp) (by simp; omega) (by rintro _ ⟨⟩; show g2≠M; omega) rfl
theorem zE(l:List Int)(a:Option Addr)(c M q k:Nat)(T:TypeId)(cs:Array Value)(what:Int)(w:World)(ok:Sl.ok ⟨a,l,c⟩ w)(hM:w.heap[M]?=some (.cells cs T (0,0)))(hk:k<4)(Iu:cs[q+k]?=some (.slice a l.length c))(Ik:l≠[]->∀x,a=some x->x.block≠M) : Calls Tryz.prog 55 #[.pointer (some ⟨M,q,none⟩),.agg #[.int .i64 ((k:Int)+1),.int .i64 what]] w (gx T q cs a c l M k what w):=by
 cases l with
 | nil=>exact CP a c M q k T cs what w hM hk Iu
 | cons x t =>
  replace Ik:=Ik (by simp);by_cases hy:(x :: t)[t.length]'(by simp)=what
  .exact EC x t a c M q k T cs what w ok hM hk Iu Ik hy
  have hlen:t.length+1<=5:=ok.len
  rcases (by omega:t.length<=3\/t.length=4) with h3 | h4
  .exact wO x t a c M q k T cs what w ok hM hk Iu Ik _ rfl (by simpa using hy) h3
  .have:∃p y2 r s,t=[p,y2,r,s]:=by
    match t,h4 with
    | [p,y2,r,s],_=>exact⟨p,y2,r,s,rfl⟩
   obtain⟨p,y2,r,s,rfl⟩:=this;exact zD x p y2 r s a c M q k T cs what w ok hM hk Iu Ik _ rfl (by simpa using hy)
def cT(tag tt:Int)(w:Wt):Option Wt:=if w.tag=tag then(if 2<=(w.put tt).hv.length then none else some (w.put tt)) else some w
def fX(tag tt:Int)(w:Wt):Bool:=decide (w.tag=tag) && decide (2<=(w.put tt).hv.length)
theorem Dv{l:List Wt}(h:l.Pairwise λa b=>a.tag<b.tag){x y:Wt}(hx:x∈l)(hy:y∈l)(e:x.tag=y.tag):x=y:=by
 obtain⟨i,hi,rfl⟩:=List.getElem_of_mem hx;obtain⟨j,hj,rfl⟩:=List.getElem_of_mem hy;rw[List.pairwise_iff_getElem]at h
 rcases Nat.lt_trichotomy i j with q | q | q
 .have:=h i j hi hj q; omega
 .subst q; rfl
 .have:=h j i hj hi q; omega
theorem dY{α β:Type}{f g:α->Option β}:∀ {l:List α},(∀x∈l,f x=g x)->l.filterMap f=l.filterMap g
 | [],_=>rfl
 | a :: l,h=>by rw[List.filterMap_cons,List.filterMap_cons,h a (by simp),dY λx hx=>h x (by simp[hx])]
theorem lU{α:Type}(p:α->Bool):∀l:List α,l.filterMap (λx=>if p x=true then some x else none)=l.filter p
 | []=>rfl
 | a :: l=>by
  rw[List.filterMap_cons,List.filter_cons,lU p l];by_cases h:p a=true
  .simp[h]
  .simp[h]
theorem CW{t:Tg}(h:t.wait.Pairwise λa b=>a.tag<b.tag)(m:Ms) :
  (t.came m).wait=t.wait.filterMap (cT m.tag m.tt)/\∀x,x∈(t.came m).done ↔ x∈t.done\/(x=m.tag/\t.wait.any (fX m.tag m.tt)=true):=by
 unfold Tg.came
 split
 .rename_i hf;rw[List.find?_eq_none]at hf;have Ik:∀x∈t.wait,x.tag≠m.tag:=λx hx e=>hf x hx (by simp[e]);refine⟨?_,λx=>?_⟩
  .rw[dY (g:=some) λx hx=>by unfold cT; rw[if_neg (Ik x hx)]];simp
  .have:t.wait.any (fX m.tag m.tt)=false:=by
    rw[List.any_eq_false];intro y hy;simp[fX,Ik y hy]
   simp[this]
 .rename_i w hf;have hw:=List.mem_of_find?_eq_some hf
  have ht:w.tag=m.tag:=by simpa using List.find?_some hf
  have uni:∀x∈t.wait,x.tag=m.tag->x=w:=λx hx e=>Dv h hx hw (e.trans ht.symm)
  split
  .rename_i h2;refine⟨?_,λx=>?_⟩
   .dsimp only;rw[dY (g:=λx=>if decide (x.tag≠m.tag)=true then some x else none) λx hx=>?_,lU λx:Wt=>decide (x.tag≠m.tag)]
    .unfold cT;by_cases e:x.tag=m.tag
     .obtain rfl:=uni x hx e;simp[e,h2]
     .simp[e]
   .have:t.wait.any (fX m.tag m.tt)=true:=by
     rw[List.any_eq_true];exact⟨w,hw,by simp[fX,ht,h2]⟩
    simp only[this,and_true]
    split
    .rename_i hd;exact⟨.inl,λe=>e.elim id λe=>e▸hd⟩
    .simp
  .rename_i h2;refine⟨?_,λx=>?_⟩
   .rw[dY (g:=λx=>some (if x.tag=m.tag then x.put m.tt else x)) λx hx=>?_]
    .simp
    .unfold cT;by_cases e:x.tag=m.tag
     .obtain rfl:=uni x hx e;simp only[e,if_true];rw[if_neg h2]
     .simp[e]
   .have:t.wait.any (fX m.tag m.tt)=false:=by
     rw[List.any_eq_false];intro y hy;by_cases e:y.tag=m.tag
     .obtain rfl:=uni y hy e;simp[fX,h2]
     .simp[fX,e]
    simp[this]
def WI (t:Tg):Prop:=∀w∈t.wait,∀x∈w.hv,0<=x/\x<3
