import Derived.Test.YtjalgpcigojpkaaGreatDoorQ02
set_option maxRecDepth 99999
set_option maxHeartbeats 99999999
namespace Go.Proofs.YtjalgpcigojpkaaGreatDoor
section
open Go.RowKit
def bh (B:Nat)(w:World)(v:Value)(l:List Int):Prop:=w.ownsRow B 3 1 v l.length (l.map (Value.int .i64))
theorem Tryz.infoInt:(Tryz.prog.info? 3).map (λi=>(i.zero,i.size,i.bytes))=some (some (.int .i64 0),1,8):=by kernel_rfl
theorem bh.shape{B:Nat}{w:World}{v:Value}{l:List Int}(h:bh B w v l):∃a cap,v=.slice a l.length cap/\Ints w.heap.size w a l:=by
 obtain⟨h1,h2⟩:=h
 rcases h2 with⟨rfl,hn⟩ | ⟨g,cap,cur,rfl,hg,hh,hc,hm,hs,ht⟩
 .have:l=[]:=List.length_eq_zero_iff.1 hn;subst this;exact⟨none,0,rfl,Ints.nil _ _ _⟩
 .refine⟨_,cap,rfl,λi hi=>?_⟩
  have lB:g<w.heap.size:=(Gl hh)
  refine⟨g,0,rfl,lB,?_⟩
  have wU:w.cell? ⟨g,0+i,none⟩=(l.map (Value.int .i64))[i]?:=by rw[<-ht,List.getElem?_take_of_lt (by omega)];simp[World.cell?,hh]
  rw[wU]; simp[hi]
theorem bh.mono{B C:Nat}{w:World}{v:Value}{l:List Int}(h:bh C w v l)(hB:B<=C):bh B w v l:=by
 obtain⟨h1,h2⟩:=h;refine⟨h1,?_⟩
 rcases h2 with h2 | ⟨g,cap,cur,e1,e2,e3⟩
 .exact .inl h2
 .exact .inr ⟨g,cap,cur,e1,by omega,e3⟩
theorem bh.blk{B:Nat}{w:World}{v:Value}{l:List Int}(h:bh B w v l):∀k,v.ownBlock=some k->B<=k:=by
 obtain⟨_,h2⟩:=h
 rcases h2 with⟨rfl,_⟩ | ⟨g,cap,cur,rfl,hg,_⟩
 .intro k hk; cases hk
 .intro k hk; simp[Value.ownBlock]at hk; omega
theorem bh.below{B:Nat}{w w':World}{v:Value}{l:List Int}(h:bh B w v l)(hb:Below w.heap.size w w'):bh B w' v l:=by
 obtain⟨h1,h2⟩:=h;refine⟨h1,?_⟩
 rcases h2 with h2 | ⟨g,cap,cur,e1,e2,e3,e4⟩
 .exact .inl h2
 .exact .inr ⟨g,cap,cur,e1,e2,by rw[hb.block g ((Gl e3))]; exact e3,e4⟩
def am(who:Int)(l:List (Int × Int)):List Int:=(without who l).map (·.1)
theorem oW(who:Int)(l:List (Int × Int))(k:Nat)(h:k<l.length)(e:l[k].1=who):am who (l.take (k+1))=am who (l.take k):=by unfold am; rw[de who l k h e]
theorem mQ(who:Int)(l:List (Int × Int))(k:Nat)(h:k<l.length)(e:l[k].1≠who):am who (l.take (k+1))=am who (l.take k) ++ [l[k].1]:=by unfold am; rw[eE who l k h e]; simp
theorem dw(who:Int)(l:List (Int × Int))(k:Nat):(am who (l.take k)).length<=k:=by unfold am without;rw[List.length_map];exact Nat.le_trans (List.length_filter_le _ _) (by simp; omega)
theorem vM(s:St)(a:Option Addr)(cap:Nat)(who:Int)(w:World)(hr:bj w s a)(hl:s.regs.length<=100) : Calls Tryz.prog 131 #[dh s a cap,.int .i64 who] w λe w'=>∃v,e=.returned v/\bh w.heap.size w' v (am who s.regs)/\Below w.heap.size w w':=by
 obtain⟨g,l,t,h,st⟩:=s;obtain⟨_,hr⟩:=hr;dsimp only at hl hr;obtain⟨i0,hi,Ij,Ii,Im⟩:=info_parts Tryz.infoInt;go_enter Tryz.func131,Tryz.ntmps131
 go_wp2;go_loopw [5,11] (λv i wr=>∃k:Nat,k<=l.length/\i=.int .i64 k/\bh (w.heap.size+1) wr v (am who (l.take k))/\Below (w.heap.size+1) (w.alloc (.cells #[.int .i64 g,.slice a l.length cap,.int .i64 t,.int .i64 h,.bool st] 34)) wr) (λ_ i _=>l.length - (intOf i).toNat)
 case atStart=>exact⟨0,by omega,rfl,⟨rfl,.inl ⟨rfl,rfl⟩⟩,Below.refl _ _⟩
 case round =>
  obtain⟨k,hk,rfl,ec,hb⟩:=hrel;have Ie:=Hx ec;have Iy:=Hx ec.blk;clear ec;have hs:=EG hb;have MS:=dw who l k;by_cases lB:k<l.length
  .obtain⟨b,o,rfl,Ix,h1,h2⟩:=hr k lB;have c1:=((aT hb (by omega)).cell (p:=⟨b,o+k*2,none⟩) Ix).trans h1;have c2:=((aT hb (by omega)).cell (p:=⟨b,o+k*2+1,none⟩) Ix).trans h2;clear hr h1 h2
   rcases (by omega:l[k].1=who\/l[k].1≠who) with he | he
   .have J9:(l[k].1 != who)=false:=by simp[he]
    have HE:=Hx (oW who l k lB he);clear he;go_wp2;go_roundw
    case rel=>exact⟨k+1,by omega,by go_num,by rw[HE.out]; exact Ie.out.alloc _,hb.alloc (by omega) _⟩
    case measure=>simp[intOf]; omega
   .have J9:(l[k].1 != who)=true:=by simp[he]
    have HE:=Hx (mQ who l k lB he);clear he;go_wp2_with (at_builtin; refine wpList_append_own _ rfl _ _ 71 rfl (w.heap.size+1) 3 i0 (.int .i64 0) 1 8 Tryz.underlying71 hi Ij Ii Im rfl (by decide) _ _ _ rfl ((Ie.out.alloc _).alloc _) ⟨wr.heap.size+1,0,none⟩ 1 1 [.int .i64 l[k].1] rfl rfl ?c1 ?c2 ?c3 ?c4 ?c5 ?_)
    case c1 =>
     intro j u hj
     match j,hj with
     | 0,hj=>simp at hj; subst hj; simp[Addr.add]
    case c2=>intro u hu; simp at hu; subst hu; rfl
    case c3=>unfold maxLen; omega
    case c4=>omega
    case c5=>simp; omega
    intro v' w1 jZ Il _;have wC:Below (w.heap.size+1) (w.alloc (.cells #[.int .i64 g,.slice (some ⟨b,o,none⟩) l.length cap,.int .i64 t,.int .i64 h,.bool st] 34)) w1:=((hb.alloc (by omega) _).alloc (by simp; omega) _).grown Il (by simp; omega) Iy.out;have M9:=Hx jZ;clear jZ Il;go_wp2;go_roundw
    case rel=>exact⟨k+1,by omega,by go_num,by rw[HE.out]; simpa[bh] using M9.out,wC⟩
    case measure=>simp[intOf]; omega
  .go_wp2;go_ret;exact⟨_,rfl,by rw[<-List.take_of_length_le (show l.length<=k by omega)]; exact Ie.out.mono (by omega),aT hb (by omega)⟩
theorem tX(s:St)(a:Option Addr)(cap:Nat)(who:Int)(w:World)(hr:bj w s a)(hl:s.regs.length<=100) : Calls Tryz.prog 105 #[dh s a cap,.int .i64 who] w λe w'=>∃v,e=.returned v/\bh w.heap.size w' v (am who s.regs)/\Below w.heap.size w w':=by
 obtain⟨g,l,t,h,st⟩:=s;obtain⟨_,hr⟩:=hr;dsimp only at hl hr;obtain⟨i0,hi,Ij,Ii,Im⟩:=info_parts Tryz.infoInt;go_enter Tryz.func105,Tryz.ntmps105
 go_wp2;go_loopw [5,6] (λv i wr=>∃k:Nat,k<=l.length/\i=.int .i64 k/\bh (w.heap.size+1) wr v (am who (l.take k))/\Below (w.heap.size+1) (w.alloc (.cells #[.int .i64 g,.slice a l.length cap,.int .i64 t,.int .i64 h,.bool st] 34)) wr) (λ_ i _=>l.length - (intOf i).toNat)
 case atStart=>exact⟨0,by omega,rfl,⟨rfl,.inl ⟨rfl,rfl⟩⟩,Below.refl _ _⟩
 case round =>
  obtain⟨k,hk,rfl,ec,hb⟩:=hrel;have Ie:=Hx ec;have Iy:=Hx ec.blk;clear ec;have hs:=EG hb;obtain⟨⟨e0,e1,e2,e3,e4⟩,f0,f1,f2,f3,f4⟩:=bP hb (b:=w.heap.size) (by omega) (heap_alloc_new _ _);have MS:=dw who l k;by_cases lB:k<l.length
  .obtain⟨b,o,rfl,Ix,h1,h2⟩:=hr k lB;have c1:=((aT hb (by omega)).cell (p:=⟨b,o+k*2,none⟩) Ix).trans h1;have c2:=((aT hb (by omega)).cell (p:=⟨b,o+k*2+1,none⟩) Ix).trans h2;clear hr h1 h2
   rcases (by omega:l[k].1=who\/l[k].1≠who) with he | he
   .have J9:(l[k].1 != who)=false:=by simp[he]
    have HE:=Hx (oW who l k lB he);clear he;go_wp2;go_roundw
    case rel=>exact⟨k+1,by omega,by go_num,by rw[HE.out]; exact Ie.out,hb⟩
    case measure=>simp[intOf]; omega
   .have J9:(l[k].1 != who)=true:=by simp[he]
    have HE:=Hx (mQ who l k lB he);clear he;go_wp2_with (at_builtin; refine wpList_append_own _ rfl _ _ 71 rfl (w.heap.size+1) 3 i0 (.int .i64 0) 1 8 Tryz.underlying71 hi Ij Ii Im rfl (by decide) _ _ _ rfl (Ie.out.alloc _) ⟨wr.heap.size,0,none⟩ 1 1 [.int .i64 l[k].1] rfl rfl ?c1 ?c2 ?c3 ?c4 ?c5 ?_)
    case c1 =>
     intro j u hj
     match j,hj with
     | 0,hj=>simp at hj; subst hj; simp[Addr.add]
    case c2=>intro u hu; simp at hu; subst hu; rfl
    case c3=>unfold maxLen; omega
    case c4=>omega
    case c5=>simp; omega
    intro v' w1 jZ Il _;have wC:Below (w.heap.size+1) (w.alloc (.cells #[.int .i64 g,.slice (some ⟨b,o,none⟩) l.length cap,.int .i64 t,.int .i64 h,.bool st] 34)) w1:=(hb.alloc (by omega) _).grown Il (by simp; omega) Iy.out;have M9:=Hx jZ;clear jZ Il;go_wp2;go_roundw
    case rel=>exact⟨k+1,by omega,by go_num,by rw[HE.out]; simpa[bh] using M9.out,wC⟩
    case measure=>simp[intOf]; omega
  .go_wp2;go_ret;exact⟨_,rfl,by rw[<-List.take_of_length_le (show l.length<=k by omega)]; exact Ie.out.mono (by omega),aT hb (by omega)⟩
theorem lK(who:Int):∀l:List (Int × Int),(∀r∈l,r.1≠who)->keyOf l who=0
 | [],_=>rfl
 | r :: l,h=>by unfold keyOf;rw[if_neg (h r (by simp))];exact lK who l (λx hx=>h x (by simp[hx]))
theorem dI(who:Int)(l:List (Int × Int)):∀r∈without who l,r∈l/\r.1≠who:=by intro r hr;simpa[without] using hr
theorem kG(who:Int)(l:List (Int × Int)):keyOf (without who l) who=0:=lK who _ (λr hr=>(dI who l r hr).2)
theorem gW(who o:Int)(h:o≠who):∀l:List (Int × Int),keyOf (without who l) o=keyOf l o
 | []=>rfl
 | r :: l=>by
  have ih:=gW who o h l;unfold without at ih⊢;by_cases e:r.1=who
  .rw[List.filter_cons_of_neg (by simp[e]),ih]
   conv=>rhs; unfold keyOf
   rw[if_neg (by omega)]
  .rw[List.filter_cons_of_pos (by simp[e])];unfold keyOf;rw[ih]
theorem ins_eq(who key:Int)(r:Int × Int)(l:List (Int × Int)):ins who key (r :: l)=if who<=r.1 then(who,key) :: r :: l else r :: ins who key l:=by
 by_cases h:who<=r.1
 .rw[if_pos h]; unfold ins; rw[if_neg (by omega)]
 .rw[if_neg h]; conv=>lhs; unfold ins
  rw[if_pos (by omega)]
theorem jq(who key:Int):∀l:List (Int × Int),(∀r∈l,r.1≠who)->keyOf (ins who key l) who=key
 | [],_=>by simp[ins,keyOf]
 | r :: l,h=>by
  rw[ins_eq]
  split
  .simp[keyOf]
  .unfold keyOf;rw[if_neg (h r (by simp))];exact jq who key l (λx hx=>h x (by simp[hx]))
theorem qQ(who key o:Int)(h:o≠who):∀l:List (Int × Int),keyOf (ins who key l) o=keyOf l o
 | []=>by simp[ins,keyOf]; omega
 | r :: l=>by
  rw[ins_eq]
  split
  .conv=>lhs; unfold keyOf
   rw[if_neg (by simp; omega)]
  .unfold keyOf;rw[qQ who key o h l]
theorem i7(l:List (Int × Int))(who key:Int)(hk:0<=key):keyOf (aZ l who key) who=key:=by
 unfold aZ
 split
 .exact jq who key _ (λr hr=>(dI who l r hr).2)
 .rw[kG]; omega
theorem pe(l:List (Int × Int))(who key o:Int)(h:o≠who):keyOf (aZ l who key) o=keyOf l o:=by
 unfold aZ
 split
 .rw[qQ who key o h,gW who o h]
 .exact gW who o h l
theorem mK(who key:Int):∀l:List (Int × Int),without who (ins who key l)=without who l
 | []=>by simp[ins,without]
 | r :: l=>by
  rw[ins_eq]
  split
  .simp[without]
  .have ih:=mK who key l;unfold without at ih⊢;rw[List.filter_cons,List.filter_cons,ih]
theorem jX(who:Int)(l:List (Int × Int)):without who (without who l)=without who l:=gI who _ (λr hr=>(dI who l r hr).2)
theorem rB(l:List (Int × Int))(who key:Int):without who (aZ l who key)=without who l:=by
 unfold aZ
 split
 .rw[mK,jX]
 .exact jX who l
theorem un(l:List (Int × Int))(who key:Int):am who (aZ l who key)=am who l:=by unfold am; rw[rB]
theorem lJ(who:Int):∀l:List (Int × Int),(∀r∈l,1<=r.2)->0<=keyOf l who
 | [],_=>by simp[keyOf]
 | r :: l,h=>by
  unfold keyOf
  split
  .have:=h r (by simp); omega
  .exact lJ who l (λx hx=>h x (by simp[hx]))
theorem qP(who:Int):∀l:List (Int × Int),keyOf l who≠0->∃r∈l,r.1=who/\r.2=keyOf l who
 | [],h=>absurd rfl h
 | r :: l,h=>by
  unfold keyOf at h⊢;by_cases e:r.1=who
  .rw[if_pos e]; exact⟨r,by simp,e,rfl⟩
  .rw[if_neg e]at h ⊢;obtain⟨x,hx,h1,h2⟩:=qP who l h;exact⟨x,by simp[hx],h1,h2⟩
theorem fR:∀(l:List (Int × Int)),(∀r∈l,1<=r.2)->∀r∈l,keyOf l r.1≠0
 | x :: l,hb,r,hr=>by
  unfold keyOf
  split
  .have:=hb x (by simp); omega
  .rename_i Ik
   rcases List.mem_cons.1 hr with rfl | hr
   .exact absurd rfl Ik
   .exact fR l (λy hy=>hb y (by simp[hy])) r hr
theorem sd(who key:Int):∀(l:List (Int × Int)) (r:Int × Int),r∈ins who key l->r=(who,key)\/r∈l
 | [],r,h=>by simpa[ins] using h
 | x :: l,r,h=>by
  rw[ins_eq]at h
  split at h
  .rcases List.mem_cons.1 h with h | h
   .exact .inl h
   .exact .inr h
  .rcases List.mem_cons.1 h with rfl | h
   .exact .inr (by simp)
   .rcases sd who key l r h with h | h
    .exact .inl h
    .exact .inr (by simp[h])
theorem Bc{l:List (Int × Int)}{who key:Int}{r:Int × Int}(h:r∈aZ l who key):(r=(who,key)/\0<key)\/(r∈l/\r.1≠who):=by
 unfold aZ at h
 split at h
 .rcases sd who key _ r h with h | h
  .exact .inl ⟨h,by assumption⟩
  .exact .inr (dI who l r h)
 .exact .inr (dI who l r h)
theorem ge{l:List (Int × Int)}(who:Int)(hp:l.Pairwise (λa b=>a.1<b.1)):(without who l).Pairwise (λa b=>a.1<b.1):=hp.filter _
theorem oy(who key:Int):∀l:List (Int × Int),l.Pairwise (λa b=>a.1<b.1)->(∀r∈l,r.1≠who)->(ins who key l).Pairwise (λa b=>a.1<b.1)
 | [],_,_=>by simp[ins]
 | x :: l,hp,hn=>by
  have hp0:=hp;rw[List.pairwise_cons]at hp;have hx:=hn x (by simp);rw[ins_eq]
  split
  .rw[List.pairwise_cons];refine⟨λb hb=>?_,hp0⟩
   rcases List.mem_cons.1 hb with rfl | hb
   .show who<_; omega
   .have:=hp.1 b hb; show who<_; omega
  .rw[List.pairwise_cons];refine⟨λb hb=>?_,oy who key l hp.2 (λr hr=>hn r (by simp[hr]))⟩
   rcases sd who key l b hb with rfl | hb
   .show x.1<who; omega
   .exact hp.1 b hb
theorem tM{l:List (Int × Int)}(who key:Int)(hp:l.Pairwise (λa b=>a.1<b.1)):(aZ l who key).Pairwise (λa b=>a.1<b.1):=by
 unfold aZ
 split
 .exact oy who key _ (ge who hp) (λr hr=>(dI who l r hr).2)
 .exact ge who hp
theorem td(l:List (Int × Int))(who key:Int):(aZ l who key).length<=l.length+1:=by
 unfold aZ
 split
 .rw[sl]; have:=jb who l; omega
 .have:=jb who l; omega
theorem kC{who:Int}{l:List (Int × Int)}{x:Int}(h:x∈am who l):x≠who/\∃r∈l,r.1=x:=by unfold am at h;obtain⟨r,hr,rfl⟩:=List.mem_map.1 h;obtain⟨h1,h2⟩:=dI who l r hr;exact⟨h2,r,h1,rfl⟩
theorem ea{who:Int}{l:List (Int × Int)}(hp:l.Pairwise (λa b=>a.1<b.1)):(am who l).Pairwise (·<·):=by unfold am;exact List.pairwise_map.2 (ge who hp)
structure bG where
 op:Int
 who:Int
 key:Int
 new:Int
 typ:Int
 at':Int
 stays:Bool
 data:ByteArray
 want:ByteArray
abbrev eX(c:bG):Value:=.agg #[.int .i64 c.op,.int .i64 c.who,.int .i64 c.key,.int .i64 c.new,.int .i64 c.typ,.int .i64 c.at',.bool c.stays,.string c.data,.string c.want]
def St.zero:St:=⟨0,[],0,0,false⟩
def St.free(s:St):St:=⟨s.gen,s.regs,0,0,s.stays⟩
def St.take(s:St)(kind who:Int):St:=⟨s.gen,s.regs,kind,if allT kind then 0 else who,s.stays⟩
def St.withStays(s:St)(b:Bool):St:=⟨s.gen,s.regs,s.typ,s.holder,b⟩
def St.next(s:St):St:=⟨if 1000000000<s.gen+1 then 0 else s.gen+1,s.regs,s.typ,s.holder,s.stays⟩
def az(l:List Int)(what:Int):List (Int × Int):=l.map λw=>(w,what)
def aR(s:St)(c:bG):St × List (Int × Int) :=
 let t:=(s.withRegs (aZ s.regs c.who c.new)).withStays c.stays
 if 0<c.new\/holds s c.who=false then(t,[])
 else if allT s.typ=true/\0<t.regs.length then(t,[])
 else if s.typ=5\/s.typ=6 then(t.free,az (am c.who t.regs) 2)
 else(t.free,[])
def bB(s:St)(c:bG):St × Int :=
 if 0<s.typ then(if holds s c.who=true/\s.typ=c.typ then(s,0) else(s,4))
 else(s.take c.typ c.who,0)
def aL(s:St)(c:bG):St × List (Int × Int) × Int :=
 if holds s c.who=false then(s,[],0)
 else if s.typ≠c.typ then(s,[],5)
 else if 5<=s.typ then(s.free,az (am c.who s.regs) 2,0)
 else(s.free,[],0)
def io (who key:Int)(r:Int × Int):Bool:=decide (r.1≠who/\(key=0\/r.2=key))
def aD(who key:Int)(l:List (Int × Int)):List Int:=(l.filter (io who key)).map (·.1)
def putOut(l:List (Int × Int))(gone:List Int):List (Int × Int):=gone.foldl (λl w=>aZ l w 0) l
def cF(s:St)(c:bG):Bool:=(allT s.typ && decide (c.new=0)) || (decide (0<s.typ) && !allT s.typ && decide (keyOf s.regs s.holder=c.new))
def aI(s:St)(c:bG):St × List (Int × Int) × Int :=
 if c.new=0/\cF s c=false then(s,[],5)
 else
  let gone:=aD c.who c.new s.regs
  let t:=s.withRegs (putOut s.regs gone)
  if cF s c=false then
   if gone.length=0/\keyOf s.regs c.who≠c.new then(s,[],4) else(t,az gone 1,0)
  else(t.free.take c.typ c.who,az gone 1 ++ (if s.typ≠c.typ then az (am c.who t.regs) 2 else []),0)
def fD(s:St)(c:bG):Bool:=decide (0<c.key) && decide (keyOf s.regs c.who=c.key)
def bH(s:St)(c:bG):St × List (Int × Int) × Int :=
 if c.op=1\/c.op=2 then((aR s c).1,(aR s c).2,0)
 else if c.op=3 then((bB s c).1,[],(bB s c).2)
 else if c.op=4 then aL s c
 else if c.op=5 then((s.free.withRegs []),az (am c.who s.regs) 3,0)
 else if c.op=6 then aI s c
 else(s,[],0)
def dy (s:St)(c:bG):St × List (Int × Int) × Int :=
 if 6<c.op then(St.zero,[],2)
 else if (c.op=1/\keyOf s.regs c.who≠c.key)\/(2<c.op/\fD s c=false) then(St.zero,[],4)
 else if (bH s c).2.2≠0 then(St.zero,[],(bH s c).2.2)
 else if c.op≠3/\c.op≠4 then((bH s c).1.next,(bH s c).2.1,0) else((bH s c).1,(bH s c).2.1,0)
def cf(s:St)(c:bG):St × List (Int × Int) :=
 let t:=(s.withRegs (aZ s.regs c.who c.new)).withStays c.stays
 if c.new=0/\holds s c.who=true then
  if s.typ<7 then(t.free,if 4<s.typ then az (am c.who t.regs) 2 else [])
  else if t.regs.length=0 then(t.free,[]) else(t,[])
 else(t,[])
def gh(s:St)(c:bG):Bool:=if 7<=s.typ then decide (c.new=0) else if 0<s.typ then decide (keyOf s.regs s.holder=c.new) else false
def fo(who key:Int)(l:List (Int × Int)):List Int:=(l.filter λr=>decide (r.1≠who) && !io who key r).map (·.1)
def St.rtake(s:St)(kind who:Int):St:=⟨s.gen,s.regs,kind,if 7<=kind then 0 else who,s.stays⟩
def cj(s:St)(c:bG):Option (St × List (Int × Int)) × Int :=
 if c.new=0/\gh s c=false then(none,5)
 else if gh s c=false/\(aD c.who c.new s.regs).length=0/\keyOf s.regs c.who≠c.new then(none,4)
 else
  let t:=s.withRegs (putOut s.regs (aD c.who c.new s.regs))
  if gh s c=true then(some (t.rtake c.typ c.who,az (aD c.who c.new s.regs) 1 ++ (if s.typ≠c.typ then az (fo c.who c.new s.regs) 2 else [])),0)
  else(some (t,az (aD c.who c.new s.regs) 1),0)
def bN(s:St)(c:bG):Option (St × List (Int × Int)) × Int :=
 if c.op=1\/c.op=2 then(some (cf s c),0)
 else if c.op=3 then
  if s.typ=0 then(some (s.rtake c.typ c.who,[]),0)
  else if holds s c.who=false\/s.typ≠c.typ then(none,4) else(some (s,[]),0)
 else if c.op=4 then
  if holds s c.who=true/\s.typ≠c.typ then(none,5)
  else if holds s c.who=true then(some (s.free,if 4<s.typ then az (am c.who s.regs) 2 else []),0) else(some (s,[]),0)
 else if c.op=5 then(some (s.free.withRegs [],az (am c.who s.regs) 3),0)
 else if c.op=6 then
  cj s c
 else(some (s,[]),0)
def uX (s:St)(c:bG):St × List (Int × Int) × Int :=
 if 6<c.op then(St.zero,[],2)
 else if (c.op=1/\keyOf s.regs c.who≠c.key)\/(2<c.op/\(c.key=0\/keyOf s.regs c.who≠c.key)) then(St.zero,[],4)
 else match (bN s c).1 with
  | none=>(St.zero,[],(bN s c).2)
  | some x=>if c.op≠3/\c.op≠4 then(x.1.next,x.2,0) else(x.1,x.2,0)
theorem jT{n:Int}(h:n=0\/aU n=true):allT n=decide (7<=n):=by
 unfold allT
 rcases h with rfl | h
 .rfl
 .simp[aU]at h;rw[Bool.eq_iff_iff]; simp; omega
theorem dZ:∀(gone:List Int) (l:List (Int × Int)),putOut l gone=l.filter (λr=>!gone.contains r.1)
 | [],l=>by show l=_; rw[List.filter_eq_self.2 (by simp)]
 | w :: gone,l=>by
  have ih:=dZ gone (aZ l w 0);have e:putOut l (w :: gone)=putOut (aZ l w 0) gone:=rfl;rw[e,ih];unfold aZ;rw[if_neg (by omega)];unfold without;rw[List.filter_filter];congr 1
  funext r
  by_cases h:r.1=w<;>simp[h]
theorem ko{l:List (Int × Int)}(hp:l.Pairwise (λa b=>a.1<b.1)){a b:Int × Int}(ha:a∈l)(hb:b∈l)(h:a.1=b.1):a=b:=by
 induction l with
 | nil=>cases ha
 | cons x l ih =>
  rw[List.pairwise_cons]at hp
  rcases List.mem_cons.1 ha with rfl | ha'
  .rcases List.mem_cons.1 hb with rfl | Jk
   .rfl
   .have:=hp.1 b Jk; omega
  .rcases List.mem_cons.1 hb with rfl | Jk
   .have:=hp.1 a ha'; omega
   .exact ih hp.2 ha' Jk
theorem qe{l:List (Int × Int)}(hp:l.Pairwise (λa b=>a.1<b.1))(who key:Int){r:Int × Int}(hr:r∈l):(aD who key l).contains r.1=io who key r:=by
 rw[Bool.eq_iff_iff,List.contains_iff_mem];unfold aD;rw[List.mem_map];constructor
 .rintro⟨x,hx,e⟩;obtain⟨h1,h2⟩:=List.mem_filter.1 hx;rw[ko hp hr h1 e.symm]; exact h2
 .intro h;exact⟨r,List.mem_filter.2 ⟨hr,h⟩,rfl⟩
theorem mP{l:List (Int × Int)}(hp:l.Pairwise (λa b=>a.1<b.1))(who key:Int):putOut l (aD who key l)=l.filter (λr=>!io who key r):=by rw[dZ];apply List.filter_congr;intro r hr;rw[qe hp who key hr]
theorem uw{l:List (Int × Int)}(hp:l.Pairwise (λa b=>a.1<b.1))(who key:Int):am who (putOut l (aD who key l))=fo who key l:=by
 rw[mP hp];unfold am fo without;rw[List.filter_filter];congr 1;apply List.filter_congr;intro r _
 by_cases h:r.1=who<;>simp[h]
structure jA (c:bG):Prop where
 op:1<=c.op/\c.op<=9
 who:1<=c.who/\c.who<=4
 key:0<=c.key/\c.key<=999
 new:0<=c.new/\c.new<=999
 typ:c.op=3\/c.op=4\/c.op=6->aU c.typ=true
theorem Ae{s:St}(g:Good s):s.typ=0\/aU s.typ=true:=by
 by_cases h:s.typ=0
 .exact .inl h
 .exact .inr (g.typ h)
theorem l9{s:St}(g:Good s):s.typ=0\/s.typ=1\/s.typ=3\/s.typ=5\/s.typ=6\/s.typ=7\/s.typ=8:=by
 rcases Ae g with h | h
 .exact .inl h
 .simp[aU]at h; omega
theorem Ai{s:St}(g:Good s)(c:bG):cF s c=gh s c:=by
 unfold cF gh allT
 rcases l9 g with h | h | h | h | h | h | h<;>simp[h]
theorem xg(s:St)(kind who:Int)(h:aU kind=true):s.take kind who=s.rtake kind who:=by
 unfold St.take St.rtake;rw[jT (.inr h)]
 by_cases h7:7<=kind<;>simp[h7]
theorem zc{s:St}{who:Int}(h:holds s who=true):s.typ≠0:=by intro e;simp[holds,e]at h
theorem mO{s:St}(g:Good s)(c:bG)(hn:0<=c.new):aR s c=cf s c:=by
 unfold aR cf;by_cases h1:0<c.new
 .simp[h1,(show ¬ c.new=0 by omega)]
 have h0:c.new=0:=by omega
 cases hh:holds s c.who
 .simp
 have hz:=zc hh;simp only[h0,Int.lt_irrefl,false_or,Bool.true_eq_false,if_false,and_self,if_true]
 rcases l9 g with h | h | h | h | h | h | h
 .exact absurd h hz
 all_goals simp[h,allT]
 all_goals
  by_cases hl:(St.withStays (s.withRegs (aZ s.regs c.who 0)) c.stays).regs=[]
  .simp[hl]
  .simp[hl,List.length_pos_iff]
theorem DY{s:St}(g:Good s){c:bG}(hc:jA c):dy s c=uX s c:=by
 unfold dy uX;by_cases h6:6<c.op
 .rw[if_pos h6,if_pos h6]
 rw[if_neg h6,if_neg h6]
 have hk:fD s c=false ↔ (c.key=0\/keyOf s.regs c.who≠c.key):=by
  have:=hc.key;unfold fD;rw[Bool.and_eq_false_iff];simp only[decide_eq_false_iff_not];constructor
  .rintro (h | h)
   .exact .inl (by omega)
   .exact .inr h
  .rintro (h | h)
   .exact .inl (by omega)
   .exact .inr h
 have hq2:((c.op=1/\keyOf s.regs c.who≠c.key)\/(2<c.op/\fD s c=false)) ↔ ((c.op=1/\keyOf s.regs c.who≠c.key)\/(2<c.op/\(c.key=0\/keyOf s.regs c.who≠c.key))):=by rw[hk]
 by_cases hq:(c.op=1/\keyOf s.regs c.who≠c.key)\/(2<c.op/\(c.key=0\/keyOf s.regs c.who≠c.key))
 .rw[if_pos (hq2.2 hq),if_pos hq]
 rw[if_neg (λx=>hq (hq2.1 x)),if_neg hq]
 have Jt:c.op=1\/c.op=2\/c.op=3\/c.op=4\/c.op=5\/c.op=6:=by have:=hc.op; omega
 rcases Jt with h | h | h | h | h | h
 .simp[bH,bN,h,mO g c hc.new.1]
 .simp[bH,bN,h,mO g c hc.new.1]
 .have Lp:=xg s c.typ c.who (hc.typ (.inl h))
  rcases l9 g with ht | ht | ht | ht | ht | ht | ht<;>simp[bH,bN,bB,h,ht,Lp]
  all_goals
   by_cases h1:holds s c.who=true<;>by_cases h2:s.typ=c.typ<;>simp_all
 .cases h1:holds s c.who
  .simp[bH,bN,aL,h,h1]
  by_cases h2:s.typ=c.typ
  .by_cases h3:4<s.typ
   .have h5:5<=s.typ:=by omega
    have e1:aL s c=(s.free,az (am c.who s.regs) 2,0):=by unfold aL; rw[if_neg (by rw[h1]; simp),if_neg (by simpa using h2),if_pos h5]
    simp[bH,bN,h,h1,h2,e1];intro; omega
   .have h5:¬ 5<=s.typ:=by omega
    have e1:aL s c=(s.free,[],0):=by unfold aL; rw[if_neg (by rw[h1]; simp),if_neg (by simpa using h2),if_neg h5]
    simp[bH,bN,h,h1,h2,e1];simp[<-h2,h3]
  .have e1:aL s c=(s,[],5):=by unfold aL; rw[if_neg (by rw[h1]; simp),if_pos h2]
   simp[bH,bN,h,h1,h2,e1]
 .simp[bH,bN,h]
 .have Lp:=λs'=>xg s' c.typ c.who (hc.typ (.inr (.inr h)));have hte:=Ai g c;have NQ:=uw g.sorted c.who c.new
  have MR:bH s c=aI s c:=by unfold bH; rw[if_neg (by omega),if_neg (by omega),if_neg (by omega),if_neg (by omega),if_pos h]
  have hra:bN s c=cj s c:=by unfold bN; rw[if_neg (by omega),if_neg (by omega),if_neg (by omega),if_neg (by omega),if_pos h]
  have e:(s.withRegs (putOut s.regs (aD c.who c.new s.regs))).free.take c.typ c.who=(s.withRegs (putOut s.regs (aD c.who c.new s.regs))).rtake c.typ c.who:=by rw[Lp]; rfl
  have e2:am c.who (s.withRegs (putOut s.regs (aD c.who c.new s.regs))).regs=fo c.who c.new s.regs:=NQ
  have Jt:c.op≠3/\c.op≠4:=by omega
  rw[MR,hra,if_pos Jt];by_cases h2:c.new=0/\gh s c=false
  .have ep:aI s c=(s,[],5):=by unfold aI; rw[hte,if_pos h2]
   have er:cj s c=(none,5):=by unfold cj; rw[if_pos h2]
   rw[ep,er]; simp
  by_cases h1:gh s c=false
  .by_cases h3:(aD c.who c.new s.regs).length=0/\keyOf s.regs c.who≠c.new
   .have ep:aI s c=(s,[],4):=by
     unfold aI; rw[hte,if_neg h2];show ite _ _ _=_;rw[if_pos h1];exact if_pos h3
    have er:cj s c=(none,4):=by unfold cj; rw[if_neg h2]; exact if_pos ⟨h1,h3⟩
    rw[ep,er]; simp
   .have ep:aI s c=(s.withRegs (putOut s.regs (aD c.who c.new s.regs)),az (aD c.who c.new s.regs) 1,0):=by
     unfold aI; rw[hte,if_neg h2];show ite _ _ _=_;rw[if_pos h1];exact if_neg h3
    have er:cj s c=(some (s.withRegs (putOut s.regs (aD c.who c.new s.regs)),az (aD c.who c.new s.regs) 1),0):=by unfold cj; rw[if_neg h2,if_neg (λx=>h3 x.2)];exact if_neg (by rw[h1]; simp)
    rw[ep,er]; simp[Jt]
  .have Ns:gh s c=true:=by simpa using h1
   have ep:aI s c=((s.withRegs (putOut s.regs (aD c.who c.new s.regs))).rtake c.typ c.who,az (aD c.who c.new s.regs) 1 ++ (if s.typ≠c.typ then az (fo c.who c.new s.regs) 2 else []),0):=by rw[<-e,<-e2];unfold aI; rw[hte,if_neg h2];show ite _ _ _=_;exact if_neg h1
   have er:cj s c=(some ((s.withRegs (putOut s.regs (aD c.who c.new s.regs))).rtake c.typ c.who,az (aD c.who c.new s.regs) 1 ++ (if s.typ≠c.typ then az (fo c.who c.new s.regs) 2 else [])),0):=by unfold cj; rw[if_neg h2,if_neg (λx=>h1 x.1)];exact if_pos Ns
   rw[ep,er]; simp[Jt]
def bT (B:Nat)(w:World)(v:Value)(l:List (Int × Int)):Prop:=w.ownsRow B 120 2 v l.length (ah l)
theorem Tryz.infoTell:(Tryz.prog.info? 120).map (λi=>(i.zero,i.size,i.bytes))=some (some (.agg #[.int .i64 0,.int .i64 0]),2,16):=by kernel_rfl
theorem bT.shape{B:Nat}{w:World}{v:Value}{l:List (Int × Int)}(h:bT B w v l):∃a cap,v=.slice a l.length cap/\bE w.heap.size w a l:=by
 obtain⟨h1,h2⟩:=h
 rcases h2 with⟨rfl,hn⟩ | ⟨g,cap,cur,rfl,hg,hh,hc,hm,hs,ht⟩
 .have:l=[]:=List.length_eq_zero_iff.1 hn;subst this;exact⟨none,0,rfl,bE.nil _ _ _⟩
 .refine⟨_,cap,rfl,λi hi=>?_⟩
  have lB:g<w.heap.size:=(Gl hh)
  obtain⟨p1,p2⟩:=ik l i hi
  have wU:∀j,j<l.length*2->w.cell? ⟨g,0+j,none⟩=(ah l)[j]?:=by intro j hj;rw[<-ht,List.getElem?_take_of_lt hj];simp[World.cell?,hh]
  exact⟨g,0,rfl,lB,(wU _ (by omega)).trans p1,by rw[show 0+i*2+1=0+(i*2+1) from by omega]; exact(wU _ (by omega)).trans p2⟩
theorem bT.mono{B C:Nat}{w:World}{v:Value}{l:List (Int × Int)}(h:bT C w v l)(hB:B<=C):bT B w v l:=by
 obtain⟨h1,h2⟩:=h;refine⟨h1,?_⟩
 rcases h2 with h2 | ⟨g,cap,cur,e1,e2,e3⟩
 .exact .inl h2
 .exact .inr ⟨g,cap,cur,e1,by omega,e3⟩
theorem bT.blk{B:Nat}{w:World}{v:Value}{l:List (Int × Int)}(h:bT B w v l):∀k,v.ownBlock=some k->B<=k:=by
 obtain⟨_,h2⟩:=h
 rcases h2 with⟨rfl,_⟩ | ⟨g,cap,cur,rfl,hg,_⟩
 .intro k hk; cases hk
 .intro k hk; simp[Value.ownBlock]at hk; omega
theorem bT.below{B:Nat}{w w':World}{v:Value}{l:List (Int × Int)}(h:bT B w v l)(hb:Below w.heap.size w w'):bT B w' v l:=by
 obtain⟨h1,h2⟩:=h;refine⟨h1,?_⟩
 rcases h2 with h2 | ⟨g,cap,cur,e1,e2,e3,e4⟩
 .exact .inl h2
 .exact .inr ⟨g,cap,cur,e1,e2,by rw[hb.block g ((Gl e3))]; exact e3,e4⟩
theorem qo(l:List Int)(what:Int)(k:Nat)(h:k<l.length):az (l.take (k+1)) what=az (l.take k) what ++ [(l[k],what)]:=by rw[List.take_succ_eq_append_getElem h]; unfold az; rw[List.map_append]; rfl
theorem fZ(l:List Int)(a:Option Addr)(cap:Nat)(what:Int)(w:World)(hl:l.length<=100)(hr:Ints w.heap.size w a l) : Calls Tryz.prog 130 #[.slice a l.length cap,.int .i64 what] w λe w'=>∃v,e=.returned v/\bT w.heap.size w' v (az l what)/\Below w.heap.size w w':=by
 obtain⟨i0,hi,Ij,Ii,Im⟩:=info_parts Tryz.infoTell;go_enter Tryz.func130,Tryz.ntmps130
 go_wp2;go_loopw [5,10] (λv i wr=>∃k:Nat,k<=l.length/\i=.int .i64 k/\bT w.heap.size wr v (az (l.take k) what)/\Below w.heap.size w wr) (λ_ i _=>l.length - (intOf i).toNat)
 case atStart=>exact⟨0,by omega,rfl,⟨rfl,.inl ⟨rfl,rfl⟩⟩,Below.refl _ _⟩
 case round =>
  obtain⟨k,hk,rfl,ec,hb⟩:=hrel;have Ie:=Hx ec;have Iy:=Hx ec.blk;clear ec;have hs:=hb.size
  have MS:(az (l.take k) what).length<=k:=by simp[az]; omega
  by_cases lB:k<l.length
  .obtain⟨b,o,rfl,Ix,h1⟩:=hr k lB;have c1:=(hb.cell (p:=⟨b,o+k,none⟩) Ix).trans h1;have HE:=Hx (qo l what k lB);clear hr h1;go_wp2_with (at_builtin; refine wpList_append_own _ rfl _ _ 115 rfl w.heap.size 120 i0 (.agg #[.int .i64 0,.int .i64 0]) 2 16 Tryz.underlying115 hi Ij Ii Im rfl (by decide) _ _ _ rfl (Ie.out.alloc _) ⟨wr.heap.size,0,none⟩ 1 1 [.int .i64 l[k],.int .i64 what] rfl rfl ?c1 ?c2 ?c3 ?c4 ?c5 ?_)
   case c1 =>
    intro j u hj
    match j,hj with
    | 0,hj=>simp at hj; subst hj; simp[Addr.add]
    | 1,hj=>simp at hj; subst hj; simp[Addr.add]
   case c2=>intro u hu; simp at hu; rcases hu with rfl | rfl<;>rfl
   case c3=>unfold maxLen; omega
   case c4=>omega
   case c5=>simp; omega
   intro v' w1 jZ Il _;have wC:Below w.heap.size w w1:=(hb.alloc (by omega) _).grown Il (by simp; omega) Iy.out;have M9:=Hx jZ;clear jZ Il;go_wp2;go_roundw
   case rel=>exact⟨k+1,by omega,by go_num,by rw[HE.out]; simpa[bT,ah] using M9.out,wC⟩
   case measure=>simp[intOf]; omega
  .go_wp2;go_ret;exact⟨_,rfl,by rw[<-List.take_of_length_le (show l.length<=k by omega)]; exact Ie.out,hb⟩
theorem ig(l:List Int)(a:Option Addr)(cap:Nat)(what:Int)(w:World)(hl:l.length<=100)(hr:Ints w.heap.size w a l) : Calls Tryz.prog 104 #[.slice a l.length cap,.int .i64 what] w λe w'=>∃v,e=.returned v/\bT w.heap.size w' v (az l what)/\Below w.heap.size w w':=by
 obtain⟨i0,hi,Ij,Ii,Im⟩:=info_parts Tryz.infoTell;go_enter Tryz.func104,Tryz.ntmps104
 go_wp2;go_loopw [5,6] (λv i wr=>∃k:Nat,k<=l.length/\i=.int .i64 k/\bT w.heap.size wr v (az (l.take k) what)/\Below w.heap.size w wr) (λ_ i _=>l.length - (intOf i).toNat)
 case atStart=>exact⟨0,by omega,rfl,⟨rfl,.inl ⟨rfl,rfl⟩⟩,Below.refl _ _⟩
 case round =>
  obtain⟨k,hk,rfl,ec,hb⟩:=hrel;have Ie:=Hx ec;have Iy:=Hx ec.blk;clear ec;have hs:=hb.size
  have MS:(az (l.take k) what).length<=k:=by simp[az]; omega
  by_cases lB:k<l.length
  .obtain⟨b,o,rfl,Ix,h1⟩:=hr k lB;have c1:=(hb.cell (p:=⟨b,o+k,none⟩) Ix).trans h1;have HE:=Hx (qo l what k lB);clear hr h1;go_wp2_with (at_builtin; refine wpList_append_own _ rfl _ _ 115 rfl w.heap.size 120 i0 (.agg #[.int .i64 0,.int .i64 0]) 2 16 Tryz.underlying115 hi Ij Ii Im rfl (by decide) _ _ _ rfl (Ie.out.alloc _) ⟨wr.heap.size,0,none⟩ 1 1 [.int .i64 l[k],.int .i64 what] rfl rfl ?c1 ?c2 ?c3 ?c4 ?c5 ?_)
   case c1 =>
    intro j u hj
    match j,hj with
    | 0,hj=>simp at hj; subst hj; simp[Addr.add]
    | 1,hj=>simp at hj; subst hj; simp[Addr.add]
   case c2=>intro u hu; simp at hu; rcases hu with rfl | rfl<;>rfl
   case c3=>unfold maxLen; omega
   case c4=>omega
   case c5=>simp; omega
   intro v' w1 jZ Il _;have wC:Below w.heap.size w w1:=(hb.alloc (by omega) _).grown Il (by simp; omega) Iy.out;have M9:=Hx jZ;clear jZ Il;go_wp2;go_roundw
   case rel=>exact⟨k+1,by omega,by go_num,by rw[HE.out]; simpa[bT,ah] using M9.out,wC⟩
   case measure=>simp[intOf]; omega
  .go_wp2;go_ret;exact⟨_,rfl,by rw[<-List.take_of_length_le (show l.length<=k by omega)]; exact Ie.out,hb⟩
theorem fw(g:Int)(l:List (Int × Int))(t h:Int)(st:Bool)(a:Option Addr)(cap:Nat)(w:World) : Calls Tryz.prog 132 #[.agg #[.int .i64 g,.slice a l.length cap,.int .i64 t,.int .i64 h,.bool st]] w λe w'=>e=.returned (.agg #[.int .i64 g,.slice a l.length cap,.int .i64 0,.int .i64 0,.bool st])/\Below w.heap.size w w':=by
 go_enter Tryz.func132,Tryz.ntmps132
 go_wp2;exact bodyPost_ret (v:=.agg #[.int .i64 g,.slice a l.length cap,.int .i64 0,.int .i64 0,.bool st]) (by simp[results,Tryz.results132,go_sem]) rfl ⟨rfl,(ay w _).alloc (by simp) _⟩
theorem jP(g:Int)(l:List (Int × Int))(t h:Int)(st:Bool)(a:Option Addr)(cap:Nat)(w:World) : Calls Tryz.prog 103 #[.agg #[.int .i64 g,.slice a l.length cap,.int .i64 t,.int .i64 h,.bool st]] w λe w'=>e=.returned (.agg #[.int .i64 g,.slice a l.length cap,.int .i64 0,.int .i64 0,.bool st])/\Below w.heap.size w w':=by
 go_enter Tryz.func103,Tryz.ntmps103
 go_wp2;exact bodyPost_ret (v:=.agg #[.int .i64 g,.slice a l.length cap,.int .i64 0,.int .i64 0,.bool st]) (by simp[results,Tryz.results103,go_sem]) rfl ⟨rfl,(ay w _).alloc (by simp) _⟩
theorem qu(g:Int)(l:List (Int × Int))(t h:Int)(st:Bool)(a:Option Addr)(cap:Nat)(kind who:Int)(w:World) : Calls Tryz.prog 106 #[.agg #[.int .i64 g,.slice a l.length cap,.int .i64 t,.int .i64 h,.bool st],.int .i64 kind,.int .i64 who] w λe w'=>e=.returned (.agg #[.int .i64 g,.slice a l.length cap,.int .i64 kind,.int .i64 (if 7<=kind then 0 else who),.bool st])/\Below w.heap.size w w':=by
 by_cases hk:7<=kind
 .rw[if_pos hk];go_enter Tryz.func106,Tryz.ntmps106
  go_wp2;exact bodyPost_ret (v:=.agg #[.int .i64 g,.slice a l.length cap,.int .i64 kind,.int .i64 0,.bool st]) (by simp[results,Tryz.results106,go_sem]) rfl ⟨rfl,(ay w _).alloc (by simp) _⟩
 .rw[if_neg hk];go_enter Tryz.func106,Tryz.ntmps106
  go_wp2;exact bodyPost_ret (v:=.agg #[.int .i64 g,.slice a l.length cap,.int .i64 kind,.int .i64 who,.bool st]) (by simp[results,Tryz.results106,go_sem]) rfl ⟨rfl,(ay w _).alloc (by simp) _⟩
theorem oz(s:St)(a b:Option Addr)(c d:Nat)(w:World)(ha:bj w s a)(hb:bj w s b) : Calls Tryz.prog 24 #[dh s a c,dh s b d] w λe w'=>e=.returned (.bool true)/\Below w.heap.size w w':=by
 obtain⟨g,l,t,h,st⟩:=s;obtain⟨hl,ha⟩:=ha;obtain⟨_,hb⟩:=hb;unfold maxLen at hl;dsimp only at hl ha hb
 have q1:(g != g)=false:=by simp
 have q2:(t != t)=false:=by simp
 have q3:(h != h)=false:=by simp
 have q4:(st != st)=false:=by simp
 have q5:((l.length:Int) != (l.length:Int))=false:=by simp
 go_enter Tryz.func24,Tryz.ntmps24
 go_wp2;go_loopw [5] (λi wr=>∃k:Nat,k<=l.length/\i=.int .i64 k/\Below (w.heap.size+2) ((w.alloc (.cells #[.int .i64 g,.slice a l.length c,.int .i64 t,.int .i64 h,.bool st] 34)).alloc (.cells #[.int .i64 g,.slice b l.length d,.int .i64 t,.int .i64 h,.bool st] 34)) wr) (λi _=>l.length - (intOf i).toNat)
 case atStart=>exact⟨0,by omega,rfl,Below.refl _ _⟩
 case round =>
  obtain⟨k,hk,rfl,Ir⟩:=hrel;obtain⟨⟨e0,e1,e2,e3,e4⟩,f0,f1,f2,f3,f4⟩:=bP Ir (b:=w.heap.size) (by omega) (heap_alloc2_old w _ _);obtain⟨⟨g0,g1,g2,g3,g4⟩,k0,k1,k2,k3,k4⟩:=bP Ir (b:=w.heap.size+1) (by omega) (heap_alloc2_new w _ _);have b0:Below w.heap.size w wr:=aT (aT Ir (by simp)) (by first | (simp; done) | omega);by_cases lB:k<l.length
  .obtain⟨b1,o1,rfl,Ls,h11,h12⟩:=ha k lB;obtain⟨b2,o2,rfl,Nh,h21,h22⟩:=hb k lB;have c11:=(b0.cell (p:=⟨b1,o1+k*2,none⟩) Ls).trans h11;have c12:=(b0.cell (p:=⟨b1,o1+k*2+1,none⟩) Ls).trans h12;have c21:=(b0.cell (p:=⟨b2,o2+k*2,none⟩) Nh).trans h21;have c22:=(b0.cell (p:=⟨b2,o2+k*2+1,none⟩) Nh).trans h22;clear ha hb h11 h12 h21 h22;go_wp2;go_quiet (fail)
   go_wp2;go_roundw
   case rel=>exact⟨k+1,by omega,by go_num,below_drewN Ir _⟩
   case measure=>simp[intOf]; omega
  .go_wp2;go_ret;exact⟨rfl,b0⟩
