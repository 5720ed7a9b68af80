import Derived.Test.YtjalgpcigojpkaaGreatDoorQ07
import Derived.Lib.SplitLaws
import Derived.Lib.AtoiAllCases
import Derived.Lib.ItoaNum
import Derived.Lib.SlBuf
namespace Go.Proofs.YtjalgpcigojpkaaGreatDoor
section
open Go.RowKit Go.Sort
def nN(a0:Option Addr)(n0:Nat)(r:St × List (Int × Int) × Int)(w:World)(e:Ending)(w':World):Prop :=
 ∃a cap v,e=.returned (.tuple #[.agg #[.int .i64 r.1.gen,.slice a r.1.regs.length cap,.int .i64 r.1.typ,.int .i64 r.1.holder,.bool r.1.stays],v,.int .i64 r.2.2])/\bj w' r.1 a/\bT w.heap.size w' v r.2.1/\Below w.heap.size w w'/\((a=a0/\r.1.regs.length<=n0)\/∀b o,a=some ⟨b,o,none⟩->w.heap.size<=b)
theorem iO{a0:Option Addr}{n0:Nat}{r:St × List (Int × Int) × Int}{w w2 w':World}{f:Int}(hp:r=(St.zero,[],f))(hb:Below w.heap.size w w2)(k:ac (·=w.heap.size+1+1) w2 w') : nN a0 n0 r w (.returned (.tuple #[.agg #[.int .i64 0,.slice none 0 0,.int .i64 0,.int .i64 0,.bool false],.slice none 0 0,.int .i64 f])) w':=by
 subst hp;exact⟨none,0,_,rfl,⟨by simp[St.zero],bE.nil _ _ _⟩,bI _ _,hb.trans (k.below hb.size (λm hm=>by omega)),.inr (λb o e=>by cases e)⟩
structure OB (w:World) (s:St) (a:Option Addr) (cap:Nat) (c:bG) (wx:World):Prop where
 below:Below w.heap.size w wx
 hS:wx.heap[w.heap.size]?=some (.cells #[.int .i64 s.gen,.slice a s.regs.length cap,.int .i64 s.typ,.int .i64 s.holder,.bool s.stays] 34 (0,0))
 hC:wx.heap[w.heap.size+1]?=some (.cells #[.int .i64 c.op,.int .i64 c.who,.int .i64 c.key,.int .i64 c.new,.int .i64 c.typ,.int .i64 c.at',.bool c.stays,.string c.data,.string c.want] 39 (0,0))
 hZ:wx.heap[w.heap.size+1+1]?=some (.cells #[.int .i64 0,.slice none 0 0,.int .i64 0,.int .i64 0,.bool false] 34 (0,0))
section
variable {w wx w':World} {s:St} {a:Option Addr} {cap:Nat} {c:bG}
theorem OB.lt(f:OB w s a cap c wx):w.heap.size+1+1<wx.heap.size:=(Gl f.hZ)
theorem OB.over(f:OB w s a cap c wx)(b:Below wx.heap.size wx w'):OB w s a cap c w':=by have h:=f.lt;exact⟨f.below.trans (b.mono f.below.size),(b.block _ (by omega)).trans f.hS,(b.block _ (by omega)).trans f.hC,(b.block _ h).trans f.hZ⟩
theorem OB.side(f:OB w s a cap c wx)(k:ac (λb=>w.heap.size+1+1<b) wx w'):OB w s a cap c w':=by have h:=f.lt;exact⟨f.below.trans (k.below f.below.size (λm hm=>by omega)),(k.block _ (by omega) (by omega)).trans f.hS,(k.block _ (by omega) (by omega)).trans f.hC,(k.block _ (by omega) h).trans f.hZ⟩
theorem OB.s5(f:OB w s a cap c wx):wx.cell? ⟨w.heap.size,0,none⟩=some (.int .i64 s.gen)/\wx.cell? ⟨w.heap.size,1,none⟩=some (.slice a s.regs.length cap)/\wx.cell? ⟨w.heap.size,2,none⟩=some (.int .i64 s.typ)/\wx.cell? ⟨w.heap.size,3,none⟩=some (.int .i64 s.holder)/\wx.cell? ⟨w.heap.size,4,none⟩=some (.bool s.stays):=by have:=f.hS; simp[World.cell?,this]
theorem OB.c7(f:OB w s a cap c wx):wx.cell? ⟨w.heap.size+1,0,none⟩=some (.int .i64 c.op)/\wx.cell? ⟨w.heap.size+1,1,none⟩=some (.int .i64 c.who)/\wx.cell? ⟨w.heap.size+1,2,none⟩=some (.int .i64 c.key)/\wx.cell? ⟨w.heap.size+1,3,none⟩=some (.int .i64 c.new)/\wx.cell? ⟨w.heap.size+1,4,none⟩=some (.int .i64 c.typ)/\wx.cell? ⟨w.heap.size+1,6,none⟩=some (.bool c.stays):=by have:=f.hC; simp[World.cell?,this]
theorem OB.z5(f:OB w s a cap c wx):(wx.cell? ⟨w.heap.size+1+1,0,none⟩=some (.int .i64 0)/\wx.cell? ⟨w.heap.size+1+1,1,none⟩=some (.slice none 0 0)/\wx.cell? ⟨w.heap.size+1+1,2,none⟩=some (.int .i64 0)/\wx.cell? ⟨w.heap.size+1+1,3,none⟩=some (.int .i64 0)/\wx.cell? ⟨w.heap.size+1+1,4,none⟩=some (.bool false)) /\ (wx.frozen? ⟨w.heap.size+1+1,0,none⟩=false/\wx.frozen? ⟨w.heap.size+1+1,1,none⟩=false/\wx.frozen? ⟨w.heap.size+1+1,2,none⟩=false/\wx.frozen? ⟨w.heap.size+1+1,3,none⟩=false/\wx.frozen? ⟨w.heap.size+1+1,4,none⟩=false):=by
 have:=f.hZ; simp[World.cell?,World.frozen?,this]
end
structure TR (B:Nat) (a:Option Addr) (l:List (Int × Int)) (w4:World) (T:Nat) (r:St) (a3:Option Addr) (c3:Nat) (wx:World):Prop where
 bt:B<=T
 tl:T<w4.heap.size
 lp:bE B w4 a l
 al:(a3=a/\r.regs.length<=l.length)\/∀b o,a3=some ⟨b,o,none⟩->w4.heap.size<=b
 hT:wx.heap[T]?=some (.cells #[.int .i64 r.gen,.slice a3 r.regs.length c3,.int .i64 r.typ,.int .i64 r.holder,.bool r.stays] 34 (0,0))
 str:bj wx r a3
 keeps:ac (·=T) w4 wx
section
variable {B:Nat} {a:Option Addr} {l:List (Int × Int)} {w4 wx w':World} {T:Nat} {r r':St} {a3 a3':Option Addr} {c3 c3':Nat}
theorem TR.lt(f:TR B a l w4 T r a3 c3 wx):T<wx.heap.size:=(Gl f.hT)
theorem TR.apart(f:TR B a l w4 T r a3 c3 wx){i:Nat}(hi:i<r.regs.length):∀b o,a3=some ⟨b,o,none⟩->b<B\/w4.heap.size<=b:=by
 intro b o e
 rcases f.al with⟨rfl,h⟩ | h
 .obtain⟨b',o',e',hb,-⟩:=f.lp i (by omega);rw[e]at e'; cases e';exact .inl hb
 .exact .inr (h b o e)
theorem TR.over(f:TR B a l w4 T r a3 c3 wx)(b:Below wx.heap.size wx w'):TR B a l w4 T r a3 c3 w' :=
 ⟨f.bt,f.tl,f.lp,f.al,(b.block _ f.lt).trans f.hT,f.str.below b,f.keeps.trans (ac.of_below b)⟩
theorem TR.next(f:TR B a l w4 T r a3 c3 wx)(k:ac (·=T) wx w')(h:w'.heap[T]?=some (.cells #[.int .i64 r'.gen,.slice a3' r'.regs.length c3',.int .i64 r'.typ,.int .i64 r'.holder,.bool r'.stays] 34 (0,0)))(hs:bj wx r' a3')(al:(a3'=a/\r'.regs.length<=l.length)\/∀b o,a3'=some ⟨b,o,none⟩->w4.heap.size<=b):TR B a l w4 T r' a3' c3' w':=by
 refine⟨f.bt,f.tl,f.lp,al,h,⟨hs.len,λi hi=>?_⟩,f.keeps.trans k⟩;obtain⟨b,o,e,wC,c1,c2⟩:=hs.rep i hi
 have hn:b≠T:=by
  have:=f.bt; have:=f.tl
  rcases al with⟨rfl,hl⟩ | hA
  .obtain⟨b',o',e',Jk,-⟩:=f.lp i (by omega);rw[e]at e'; cases e';omega
  .have:=hA b o e; omega
 exact⟨b,o,e,Nat.lt_of_lt_of_le wC k.size,by rw[k.cell hn wC]; exact c1,by rw[k.cell hn wC]; exact c2⟩
theorem TR.moves{S:Nat->Prop}(f:TR B a l w4 T r a3 c3 wx)(k:ac S wx w')(hS:∀b,S b->w4.heap.size<=b)(ha:0<r.regs.length->∀b o,a3=some ⟨b,o,none⟩->¬ S b):TR B a l w4 T r a3 c3 w':=by
 have hbt:=f.bt; have htl:=f.tl
 refine⟨f.bt,f.tl,f.lp,f.al,(k.block _ (λh=>by have:=hS _ h; omega) f.lt).trans f.hT,⟨f.str.len,λi hi=>?_⟩,
  ⟨k.os.trans f.keeps.os,k.tape.trans f.keeps.tape,k.output.trans f.keeps.output,Nat.le_trans f.keeps.size k.size,λb hb hs=>(k.block b (λh=>by have:=hS _ h; omega) (Nat.lt_of_lt_of_le hs f.keeps.size)).trans (f.keeps.block b hb hs)⟩⟩
 obtain⟨b,o,e,wC,c1,c2⟩:=f.str.rep i hi;have hn:=ha (by omega) b o e;exact⟨b,o,e,Nat.lt_of_lt_of_le wC k.size,by rw[k.cell hn wC]; exact c1,by rw[k.cell hn wC]; exact c2⟩
theorem TR.t5(f:TR B a l w4 T r a3 c3 wx):(wx.cell? ⟨T,0,none⟩=some (.int .i64 r.gen)/\wx.cell? ⟨T,1,none⟩=some (.slice a3 r.regs.length c3)/\wx.cell? ⟨T,2,none⟩=some (.int .i64 r.typ)/\wx.cell? ⟨T,3,none⟩=some (.int .i64 r.holder)/\wx.cell? ⟨T,4,none⟩=some (.bool r.stays)) /\ (wx.frozen? ⟨T,0,none⟩=false/\wx.frozen? ⟨T,1,none⟩=false/\wx.frozen? ⟨T,2,none⟩=false/\wx.frozen? ⟨T,3,none⟩=false/\wx.frozen? ⟨T,4,none⟩=false):=by
 have:=f.hT; simp[World.cell?,World.frozen?,this]
def kz (wx:World)(T:Nat)(r:St)(a3:Option Addr)(c3:Nat):World:=((((wx.setCell ⟨T,0,none⟩ (.int .i64 r.gen)).setCell ⟨T,1,none⟩ (.slice a3 r.regs.length c3)).setCell ⟨T,2,none⟩ (.int .i64 r.typ)).setCell ⟨T,3,none⟩ (.int .i64 r.holder)).setCell ⟨T,4,none⟩ (.bool r.stays)
theorem bm(wx:World)(T:Nat)(r:St)(a3:Option Addr)(c3:Nat):ac (·=T) wx (kz wx T r a3 c3):=af (af (af (af (af (ac.refl _ _) _ _) _ _) _ _) _ _) _ _
theorem dD{x0 x1 x2 x3 x4:Value}{Ty:TypeId}(h:wx.heap[T]?=some (.cells #[x0,x1,x2,x3,x4] Ty (0,0)))(r:St)(a3:Option Addr)(c3:Nat):(kz wx T r a3 c3).heap[T]?=some (.cells #[.int .i64 r.gen,.slice a3 r.regs.length c3,.int .i64 r.typ,.int .i64 r.holder,.bool r.stays] Ty (0,0)) :=
 block_setCell (block_setCell (block_setCell (block_setCell (block_setCell h _) _) _) _) _
theorem TR.put(f:TR B a l w4 T r a3 c3 wx)(r':St)(a3':Option Addr)(c3':Nat)(hs:bj wx r' a3')(al:(a3'=a/\r'.regs.length<=l.length)\/∀b o,a3'=some ⟨b,o,none⟩->w4.heap.size<=b):TR B a l w4 T r' a3' c3' (kz wx T r' a3' c3') :=
 f.next (bm _ _ _ _ _) (dD f.hT _ _ _) hs al
theorem TR.ob{w:World}{s:St}{cap:Nat}{c:bG}(f:TR B a l w4 T r a3 c3 wx)(b:OB w s a cap c w4)(h:w.heap.size+1+1<T):OB w s a cap c wx:=b.side (f.keeps.mono (λk hk=>by omega))
theorem nI{q:St × List (Int × Int) × Int}{w:World}{lt:List (Int × Int)}{v:Value}(hp:q=(r,lt,0))(hb:Below w.heap.size w wx)(tr:TR w.heap.size a l w4 T r a3 c3 wx)(ho:bT w4.heap.size wx v lt)(h4:w.heap.size+1+1<w4.heap.size)(k:ac (·=w.heap.size+1+1) wx w') : nN a l.length q w (.returned (.tuple #[.agg #[.int .i64 r.gen,.slice a3 r.regs.length c3,.int .i64 r.typ,.int .i64 r.holder,.bool r.stays],v,.int .i64 0])) w':=by
 subst hp;refine⟨a3,c3,v,rfl,⟨tr.str.len,λi hi=>?_⟩,(ho.keeps k (λm hm=>by omega)).mono (by omega),hb.trans (k.below hb.size (λm hm=>by omega)),?_⟩;rotate_left 1
 .rcases tr.al with e | h
  .exact .inl e
  .exact .inr (λb o e=>by have:=h b o e; omega)
 obtain⟨b,o,e,wC,c1,c2⟩:=tr.str.rep i hi
 have hn:b≠w.heap.size+1+1:=by have:=tr.apart hi b o e; omega
 exact⟨b,o,e,Nat.lt_of_lt_of_le wC k.size,by rw[k.cell hn wC]; exact c1,by rw[k.cell hn wC]; exact c2⟩
end
theorem xh(g:Int)(l:List (Int × Int))(t h:Int)(st:Bool)(a:Option Addr)(cap:Nat)(who key:Int)(w:World)(hr:bj w ⟨g,l,t,h,st⟩ a)(hl:l.length<=50)(hk:0<=key)(hs:l.Pairwise (λa b=>a.1<b.1))(L:List (Int × Int))(hL:aZ l who key=L) :
  Calls Tryz.prog 102 #[.agg #[.int .i64 g,.slice a l.length cap,.int .i64 t,.int .i64 h,.bool st],.int .i64 who,.int .i64 key] w λe w'=>∃a' c',e=.returned (.agg #[.int .i64 g,.slice a' L.length c',.int .i64 t,.int .i64 h,.bool st])/\bj w' ⟨g,L,t,h,st⟩ a'/\Below w.heap.size w w'/\(∀b o,a'=some ⟨b,o,none⟩->w.heap.size<=b):=by
 subst hL;exact AA ⟨g,l,t,h,st⟩ a cap who key w hr hl hk hs
theorem mi(g:Int)(l:List (Int × Int))(t h:Int)(st:Bool)(a:Option Addr)(cap:Nat)(who:Int)(w:World)(hr:bj w ⟨g,l,t,h,st⟩ a)(hl:l.length<=100)(O:List Int)(hO:am who l=O) : Calls Tryz.prog 105 #[.agg #[.int .i64 g,.slice a l.length cap,.int .i64 t,.int .i64 h,.bool st],.int .i64 who] w λe w'=>∃a' c',e=.returned (.slice a' O.length c')/\Ints w'.heap.size w' a' O/\Below w.heap.size w w':=by
 subst hO;refine(tX ⟨g,l,t,h,st⟩ a cap who w hr hl).mono ?_;rintro e w' ⟨v,rfl,ec,hb⟩;obtain⟨a',c',rfl,hi⟩:=ec.shape;exact⟨a',c',rfl,hi,hb⟩
theorem yw{s r:St}{c:bG}{lt:List (Int × Int)}(h:(bN s c).1=some (r,lt)):r.gen=s.gen:=by
 unfold bN at h
 split at h
 .simp only[Option.some.injEq]at h
  have:(cf s c).1.gen=s.gen:=by unfold cf; dsimp only; (repeat' split)<;>rfl
  rw[h]at this; exact this
 split at h
 .split at h
  .simp only[Option.some.injEq,Prod.mk.injEq]at h; rw[<-h.1]; rfl
  .split at h
   .cases h
   .simp only[Option.some.injEq,Prod.mk.injEq]at h; rw[<-h.1]
 split at h
 .split at h
  .cases h
  .split at h
   .simp only[Option.some.injEq,Prod.mk.injEq]at h; rw[<-h.1]; rfl
   .simp only[Option.some.injEq,Prod.mk.injEq]at h; rw[<-h.1]
 split at h
 .simp only[Option.some.injEq,Prod.mk.injEq]at h; rw[<-h.1]; rfl
 split at h
 .unfold cj at h
  split at h
  .cases h
  .split at h
   .cases h
   .dsimp only at h
    split at h
    .simp only[Option.some.injEq,Prod.mk.injEq]at h; rw[<-h.1]; rfl
    .simp only[Option.some.injEq,Prod.mk.injEq]at h; rw[<-h.1]; rfl
 .simp only[Option.some.injEq,Prod.mk.injEq]at h; rw[<-h.1]
theorem ux(who key:Int)(l:List (Int × Int))(k:Nat)(h:k<l.length)(e:(decide (l[k].1≠who) && !io who key l[k])=false):fo who key (l.take (k+1))=fo who key (l.take k):=by unfold fo;rw[List.take_succ_eq_append_getElem h,List.filter_append,List.filter_cons_of_neg (by rw[e]; simp)];simp
theorem yU(who key:Int)(l:List (Int × Int))(k:Nat)(h:k<l.length)(e:(decide (l[k].1≠who) && !io who key l[k])=true):fo who key (l.take (k+1))=fo who key (l.take k) ++ [l[k].1]:=by unfold fo;rw[List.take_succ_eq_append_getElem h,List.filter_append,List.filter_cons_of_pos (by rw[e])];simp
theorem Bn(who key:Int)(l:List (Int × Int)):(fo who key l).length<=l.length:=by unfold fo;rw[List.length_map];exact List.length_filter_le _ _
theorem uh(l:List (Int × Int))(G:List Int)(x:Int):putOut l (G ++ [x])=aZ (putOut l G) x 0:=by unfold putOut; simp
theorem rW{B:Nat}{w:World}{v:Value}{l:List Int}(h:bh B w v l){k:Nat}(hk:v.ownBlock=some k):B<=k/\k<w.heap.size:=by
 refine⟨h.blk k hk,?_⟩;obtain⟨_,h2⟩:=h
 rcases h2 with⟨rfl,_⟩ | ⟨g,cap,cur,rfl,hg,hh,_⟩
 .cases hk
 .simp[Value.ownBlock]at hk; subst hk; exact(Gl hh)
theorem qG{S:Nat->Prop}{B:Nat}{w w':World}{v:Value}{l:List Int}(h:bh B w v l)(k:ac S w w')(hS:∀b,v.ownBlock=some b->¬ S b):bh B w' v l:=by
 obtain⟨h1,h2⟩:=h;refine⟨h1,?_⟩
 rcases h2 with h2 | ⟨g,cap,cur,e1,e2,e3,e4⟩
 .exact .inl h2
 .refine .inr ⟨g,cap,cur,e1,e2,?_,e4⟩;rw[k.block g (hS g (by rw[e1]; rfl)) (Gl e3)];exact e3
theorem tR(w:World)(cs:Array Value)(T:TypeId):∀j u,cs.toList[j]?=some u->(w.alloc (.cells cs T)).cell? ((⟨w.heap.size,0,none⟩:Addr).add j)=some u:=by
 intro j u h
 have e:(⟨w.heap.size,0,none⟩:Addr).add j=⟨w.heap.size,0+j,none⟩:=by unfold Addr.add; split<;>simp_all
 rw[e,Nat.zero_add];have hh:=heap_alloc_new w (.cells cs T);unfold World.cell?;simp only[hh];simpa using h
def GA(B:Nat)(a:Option Addr)(l:List (Int × Int))(g t h:Int)(st:Bool)(w4:World)(T:Nat)(G F:Nat->List Int)(PL:Nat->List (Int × Int))(vg vl i:Value)(wx:World):Prop :=
 ∃(k:Nat) (a3:Option Addr) (c3:Nat),k<=l.length/\i=.int .i64 k/\TR B a l w4 T ⟨g,PL k,t,h,st⟩ a3 c3 wx/\bh w4.heap.size wx vg (G k)/\bh w4.heap.size wx vl (F k) /\
  (∀q,vg.ownBlock=some q->vl.ownBlock≠some q)/\(∀q b o,0<(PL k).length->a3=some ⟨b,o,none⟩->(vg.ownBlock=some q\/vl.ownBlock=some q)->b≠q)
theorem cE{P:Program}{fn:Func}{p q r:Tmp}{ty:TypeId}(h:fn.results=#[.cell p ty,.tmp q,.tmp r])(tmps:Array Value)(w:World)(g:Nat)(t:TypeId)(cs:Array Value)(d:TypeDesc)(v u:Value)
  (hp:tmps.getD p undef=.pointer (some ⟨g,0,none⟩)) (hq:tmps.getD q undef=v) (hr:tmps.getD r undef=u) (hg:w.heap[g]?=some (.cells cs t (0,0)))
  (hu:P.underlying ty=some d) (hd:(match d with | .struct _ | .array _ _=>true | _=>false)=true) (hi:(P.info? ty).map (·.size)=some cs.size) :
  (results fn tmps).run P w=.ok (.tuple #[.agg cs,v,u]) w:=by
 have JJ:tmps[p]?.getD undef=.pointer (some ⟨g,0,none⟩):=by simpa using hp
 have MQ:tmps[q]?.getD undef=v:=by simpa using hq
 have NF:tmps[r]?.getD undef=u:=by simpa using hr
 simp[results,h,JJ,MQ,NF,asAddr,run_loadVar_row w g t ty cs (0,0) d hg hu hd hi]
theorem cK:Tryz.prog.underlying 34=some (.struct (Tryz.prog.fieldsOf 34))/\(Tryz.prog.info? 34).map (·.size)=some 5:=by constructor<;>kernel_rfl
end
section
open Go.Lib
abbrev Bs:=List UInt8
def eS(b:Bool):Bs:=if b then [115,116,97,121,115] else [103,111,101,115]
def nz (r:Int × Int):Bs:=itoa r.1 ++ 58 :: itoa r.2
def bs(s:St):List Bs:=itoa s.gen :: itoa s.typ :: itoa s.holder :: eS s.stays :: s.regs.map nz
def aP(s:St):Bs:=Lib.join (bs s) [32]
def aQ (l:Bs):ByteArray:=⟨l.toArray⟩
theorem bp(l:Bs):(aQ l).size=l.length:=by simp[aQ,ByteArray.size]
theorem EH{l m:Bs}(h:aQ l=aQ m):l=m:=by
 unfold aQ at h
 injection h with h
 simpa using h
theorem ez(l m:Bs):aQ l ++ aQ m=aQ (l ++ m):=by apply ByteArray.ext;simp[aQ]
theorem iV(d:Nat)(h:d<10):(UInt8.ofNat (48+d)).toNat=48+d:=by
 have:48+d<256:=by omega
 simp[Nat.mod_eq_of_lt this]
theorem hJ(u:Nat):∀b∈decDigits u,48<=b.toNat/\b.toNat<=57:=by
 induction u using Nat.strongRecOn with
 | _ u ih =>
  intro b hb;rw[decDigits]at hb
  split at hb
  .rename_i h;simp only[List.mem_singleton]at hb;subst hb;rw[iV u h]; omega
  .rename_i h
   rcases List.mem_append.1 hb with hb | hb
   .exact ih (u / 10) (by omega) b hb
   .simp only[List.mem_singleton]at hb;subst hb;rw[iV _ (by omega)]; omega
theorem lW(u:Nat):decDigits u≠[]:=by
 rw[decDigits]
 split<;>simp
theorem BH(n:Int):∀b∈itoa n,b.toNat=45\/(48<=b.toNat/\b.toNat<=57):=by
 intro b hb;unfold itoa at hb
 split at hb
 .rcases List.mem_cons.1 hb with rfl | hb
  .left; rfl
  .exact .inr (hJ _ b hb)
 .exact .inr (hJ _ b hb)
theorem xE(n:Int)(c:UInt8)(hc:c.toNat<45\/57<c.toNat):c ∉ itoa n:=λh=>by rcases BH n c h with h | h<;>omega
theorem dO(n:Int):(32:UInt8) ∉ itoa n:=xE n 32 (by decide)
theorem vX(n:Int):(58:UInt8) ∉ itoa n:=xE n 58 (by decide)
theorem tK(b:Bool):(32:UInt8) ∉ eS b:=by cases b<;>decide
theorem vC(r:Int × Int):(32:UInt8) ∉ nz r:=by
 unfold nz;intro h
 rcases List.mem_append.1 h with h | h
 .exact dO _ h
 .rcases List.mem_cons.1 h with h | h
  .exact absurd h (by decide)
  .exact dO _ h
theorem pQ(s:St):∀w∈bs s,(32:UInt8) ∉ w:=by
 intro w hw;unfold bs at hw;simp only[List.mem_cons,List.mem_map]at hw
 rcases hw with rfl | rfl | rfl | rfl | ⟨r,_,rfl⟩
 .exact dO _
 .exact dO _
 .exact dO _
 .exact tK _
 .exact vC _
theorem gn:∀(l:Bs) (acc u:Nat) (d:Nat),parseUint10 acc l=.ok u->d<10->u*10+d<18446744073709551616->parseUint10 acc (l ++ [UInt8.ofNat (48+d)])=.ok (u*10+d)
 | [],acc,u,d,h,hd,hu=>by
  simp only[parseUint10]at h
  injection h with h
  subst h;simp only[List.nil_append,parseUint10];rw[iV d hd,if_pos (by omega),if_neg (by omega),if_neg (by omega)];simp
 | c :: r,acc,u,d,h,hd,hu=>by
  simp only[parseUint10,List.cons_append]at h ⊢
  split at h
  .rename_i h1;rw[if_pos h1]
   split at h
   .cases h
   .rename_i h2;rw[if_neg h2]
    split at h
    .cases h
    .rename_i h3;rw[if_neg h3];exact gn r _ u d h hd hu
  .cases h
theorem nB(u:Nat):u<18446744073709551616->parseUint10 0 (decDigits u)=.ok u:=by
 induction u using Nat.strongRecOn with
 | _ u ih =>
  intro hu;rw[decDigits]
  split
  .rename_i h;simp only[parseUint10];rw[iV u h,if_pos (by omega),if_neg (by omega),if_neg (by omega)];simp
  .rename_i h;have:=gn (decDigits (u / 10)) 0 (u / 10) (u % 10) (ih (u / 10) (by omega) (by omega)) (by omega) (by omega);rw[this];congr 1;omega
theorem ly(u:Nat)(hu:u<18446744073709551616):parseMag (decDigits u)=.ok u:=by unfold parseMag;rw[if_neg (lW u)];exact nB u hu
theorem iY(n:Int)(h0:-9223372036854775808<=n)(h1:n<=9223372036854775807):atoiAll (itoa n)=.ok n:=by
 unfold itoa
 split
 .rename_i h;unfold atoiAll;simp only[show(45:UInt8).toNat=45 from rfl,or_true,if_true];rw[ly _ (by omega)];simp only[not_true_eq_false,false_and,if_false,true_and];rw[if_neg (by omega)];congr 1;omega
 .rename_i h
  obtain⟨c,r,hcr⟩:∃c r,decDigits n.toNat=c :: r:=by
   cases hd:decDigits n.toNat with
   | nil=>exact absurd hd (lW _)
   | cons c r=>exact⟨c,r,rfl⟩
  have hc:=hJ n.toNat c (by rw[hcr]; simp);have hp:=ly n.toNat (by omega);rw[hcr]at hp ⊢;unfold atoiAll;simp only[if_neg (show ¬ (c.toNat=43\/c.toNat=45) by omega)];rw[hp]
  have e:¬ c.toNat=45:=by omega
  simp only[e,not_false_eq_true,true_and,false_and,if_false];rw[if_neg (by omega)];congr 1;omega
def aE (l:Bs):Int:=match atoiAll l with
 | .ok v=>v
 | _=>-1
theorem ip(n:Int)(h0:-9223372036854775808<=n)(h1:n<=9223372036854775807):aE (itoa n)=n:=by unfold aE; rw[iY n h0 h1]
theorem js(c:UInt8):∀a:Bs,c ∉ a->index a [c]=-1
 | [],_=>rfl
 | b :: l,h=>by have h1:c≠b:=λe=>h (by simp[e]);have h2:=js c l (λe=>h (by simp[e]));rw[index,h2];simp[List.isPrefixOf,h1]
theorem gY(c:UInt8):∀(a r:Bs),c ∉ a->index (a ++ c :: r) [c]=a.length
 | [],r,_=>by simp[index,List.isPrefixOf]
 | b :: l,r,h=>by have h1:c≠b:=λe=>h (by simp[e]);have h2:=gY c l r (λe=>h (by simp[e]));rw[List.cons_append,index,h2];simp[List.isPrefixOf,h1]
theorem vv(c:UInt8)(k:Nat)(a:Bs)(h:c ∉ a):splitK [c] 0 k a=[a]:=by
 cases k with
 | zero=>rfl
 | succ k=>unfold splitK; rw[js c a h]; rfl
theorem fj(c:UInt8)(k:Nat)(a r:Bs)(h:c ∉ a):splitK [c] 0 (k+1) (a ++ c :: r)=a :: splitK [c] 0 k r:=by
 show(if index (a ++ c :: r) [c] == -1 then _ else _)=_;rw[gY c a r h]
 have:¬ ((a.length:Int) == -1)=true:=by simp
 rw[if_neg this];simp
theorem bF(c:UInt8)(a b:Bs)(l:List Bs):List.intercalate [c] (a :: b :: l)=a ++ c :: List.intercalate [c] (b :: l):=by simp[List.intercalate,List.intersperse]
theorem fE(c:UInt8)(a:Bs):List.intercalate [c] [a]=a:=by simp[List.intercalate]
theorem wP{c:UInt8}{a:Bs}(h:c ∉ a):List.count c a=0:=List.count_eq_zero.2 h
theorem ou(c:UInt8):∀(l:List Bs),l≠[]->(∀w∈l,c ∉ w)->splitK [c] 0 (count (List.intercalate [c] l) [c]) (List.intercalate [c] l)=l
 | [],h,_=>absurd rfl h
 | [a],_,h=>by rw[fE]; exact vv c _ a (h a (by simp))
 | a :: b :: l,_,h=>by have ih:=ou c (b :: l) (by simp) (λw hw=>h w (by simp[hw]));rw[bF,count_one,List.count_append,wP (h a (by simp)),List.count_cons_self,Nat.zero_add,fj c _ a _ (h a (by simp)),<-count_one,ih]
theorem lg(s:St):splitK [32] 0 (count (aP s) [32]) (aP s)=bs s :=
 ou 32 (bs s) (by simp[bs]) (pQ s)
theorem CQ(r:Int × Int):Lib.cut (nz r) [58]=(itoa r.1,itoa r.2,true):=by unfold Lib.cut nz;rw[gY 58 _ _ (vX _)];rw[if_pos (by omega)];simp
def ml (w:Bs):Int × Int:=(aE (Lib.cut w [58]).1,aE (Lib.cut w [58]).2.1)
def u5(l:List Bs):St:=⟨aE (l.getD 0 []),(l.drop 4).map ml,aE (l.getD 1 []),aE (l.getD 2 []),decide (l.getD 3 []=eS true)⟩
theorem ym(b:Bool):decide (eS b=eS true)=b:=by cases b<;>decide
structure Fits (s:St):Prop where
 gen:-9223372036854775808<=s.gen/\s.gen<=9223372036854775807
 typ:-9223372036854775808<=s.typ/\s.typ<=9223372036854775807
 holder:-9223372036854775808<=s.holder/\s.holder<=9223372036854775807
 regs:∀r∈s.regs,(-9223372036854775808<=r.1/\r.1<=9223372036854775807)/\(-9223372036854775808<=r.2/\r.2<=9223372036854775807)
theorem nS(s:St)(h:Fits s):u5 (bs s)=s:=by obtain⟨gen,regs,typ,holder,stays⟩:=s;obtain⟨hg,ht,hh,hr⟩:=h;unfold u5 bs;simp only[List.getD_cons_zero,List.getD_cons_succ,List.drop_succ_cons,List.drop_zero,List.map_map,ym];rw[ip _ hg.1 hg.2,ip _ ht.1 ht.2,ip _ hh.1 hh.2];congr 1;rw[show regs=regs.map id by simp];simp only[List.map_map];refine List.map_congr_left λr NF=>?_;have:=hr r NF;simp only[Function.comp,ml,CQ,id];rw[ip _ this.1.1 this.1.2,ip _ this.2.1 this.2.2]
theorem qO:∀(l:List (Int × Int)) (n:Int),keyOf l n≠0->∃r∈l,r.1=n
 | [],n,h=>absurd rfl h
 | r :: l,n,h=>by
  unfold keyOf at h
  split at h
  .rename_i e; exact⟨r,by simp,e⟩
  .obtain⟨x,hx,e⟩:=qO l n h; exact⟨x,by simp[hx],e⟩
theorem Good.typ_le{s:St}(h:Good s):0<=s.typ/\s.typ<=8:=by
 by_cases h0:s.typ=0
 .omega
 .have:=h.typ h0; simp[aU]at this; omega
theorem Good.holder_le{s:St}(h:Good s):0<=s.holder/\s.holder<=4:=by
 by_cases h0:s.typ=0
 .have:=h.zero h0; omega
 .by_cases h7:7<=s.typ
  .have:=(h.all h7).1; omega
  .obtain⟨r,hr,e⟩:=qO _ _ (h.one h0 (by omega));have:=h.bounds r hr;omega
theorem Good.fits{s:St}(h:Good s):Fits s :=
 ⟨by have:=h.gen; omega,by have:=h.typ_le; omega,by have:=h.holder_le; omega,λr hr=>by have:=h.bounds r hr; omega⟩
theorem ja{s:St}(h:Good s){t:Bs}(e:aP s=t):u5 (splitK [32] 0 (count t [32]) t)=s:=by rw[<-e,lg,nS s h.fits]
theorem xZ{s:St}{t:Bs}(e:aP s=t):4<=(splitK [32] 0 (count t [32]) t).length:=by rw[<-e,lg]; simp[bs]
theorem vt{s t:St}(h:Good s)(g:Good t)(e:aP s=aP t):s=t:=by rw[<-ja h rfl,<-ja g rfl,e]
theorem kD(k u:Nat)(h:u<10 ^ (k+1)):nDigits u<=k+1:=by
 induction k generalizing u with
 | zero=>rw[nDigits_small (by simpa using h)]; omega
 | succ k ih =>
  by_cases hs:u<10
  .rw[nDigits_small hs]; omega
  .rw[nDigits_big hs];have:=ih (u / 10) (by rw[Nat.pow_succ]at h; omega);omega
theorem fp(k:Nat)(n:Int)(h0:0<=n)(h1:n<10 ^ (k+1)):(itoa n).length<=k+1:=by
 unfold itoa;rw[if_neg (by omega),decDigits_length];have e:(n.toNat:Int)=n:=Int.toNat_of_nonneg h0
 exact kD k _ (by
  have h2:((n.toNat:Nat):Int)<((10 ^ (k+1):Nat):Int):=by rw[e]; push_cast; exact h1
  exact_mod_cast h2)
theorem bM(n:Int)(h0:-9223372036854775808<=n)(h1:n<=9223372036854775807):(itoa n).length<=20:=by
 unfold itoa
 split
 .rw[List.length_cons,decDigits_length];have:=kD 18 n.natAbs (by omega);omega
 .rw[decDigits_length];have:=kD 18 n.toNat (by omega);omega
theorem pj(c:UInt8):∀(l:List Bs) (m:Nat),(∀w∈l,w.length<=m)->(List.intercalate [c] l).length<=l.length*(m+1)
 | [],m,_=>by simp[List.intercalate]
 | [a],m,h=>by rw[fE]; have:=h a (by simp); simp; omega
 | a :: b :: l,m,h=>by have ih:=pj c (b :: l) m (λw hw=>h w (by simp[hw]));have:=h a (by simp);rw[bF,List.length_append,List.length_cons];simp only[List.length_cons]at ih ⊢;rw[Nat.add_mul,Nat.one_mul];omega
theorem ox:∀(l:List (Int × Int)) (p:Int),(∀r∈l,p<r.1/\r.1<=4)->l.Pairwise (λa b=>a.1<b.1)->p<=4->(l.length:Int)<=4 - p
 | [],p,_,_,hp=>by simp; omega
 | r :: l,p,h,hs,hp=>by
  have h1:=h r (by simp);rw[List.pairwise_cons]at hs;have:=ox l r.1 (λx hx=>⟨hs.1 x hx,(h x (by simp[hx])).2⟩) hs.2 h1.2;simp only[List.length_cons]
  push_cast
  omega
theorem Good.regs_len{s:St}(h:Good s):s.regs.length<=4:=by have:=ox s.regs 0 (λr hr=>by have:=h.bounds r hr; omega) h.sorted (by omega);omega
theorem Good.text_len{s:St}(h:Good s):(aP s).length<=48:=by
 have h1:=fp 9 s.gen h.gen.1 (by have:=h.gen; omega);have h2:=fp 0 s.typ h.typ_le.1 (by have:=h.typ_le; omega);have h3:=fp 0 s.holder h.holder_le.1 (by have:=h.holder_le; omega)
 have h4:(eS s.stays).length<=5:=by cases s.stays<;>decide
 have hr:∀w∈s.regs.map nz,w.length<=5:=by intro w hw;obtain⟨r,hr,rfl⟩:=List.mem_map.1 hw;have hb:=h.bounds r hr;have a1:=fp 0 r.1 (by omega) (by omega);have a2:=fp 2 r.2 (by omega) (by omega);unfold nz;simp;omega
 have h5:=pj 32 _ 5 hr;have h6:=h.regs_len;rw[List.length_map]at h5;unfold aP bs Lib.join
 cases hm:s.regs.map nz with
 | nil =>
  rw[bF,bF,bF,fE];simp;omega
 | cons x l =>
  rw[hm]at h5;rw[bF,bF,bF,bF];simp;omega
end
section
open Go.RowKit
structure Dk where
 kept:List ByteArray
 now:List ByteArray
 wait:List (Nat × ByteArray)
 fuse:Int
 down:Bool
def i8(n:Nat):ByteArray:=strOfNums (List.replicate n 0)
def bJ(s:ByteArray):ByteArray:=s ++ i8 (64 - s.size)
def Dk.steps(d:Dk):Bool:=!d.down && decide (d.fuse≠0)
def Dk.step(d:Dk):Dk :=
 if d.down then d else if d.fuse=0 then { d with down:=true,fuse:=-1 } else { d with fuse:=if 0<d.fuse then d.fuse - 1 else -1 }
structure Dk.ok (n:Nat) (d:Dk):Prop where
 n40:n<=40
 kl:d.kept.length=n
 nl:d.now.length=n
 wl:∀r∈d.wait,r.1<n
 fu:-1<=d.fuse
 fm:d.fuse<=9223372036854775807
theorem Dk.step_ok{n:Nat}{d:Dk}(h:d.ok n):d.step.ok n:=by
 have:=h.fu;have:=h.fm;unfold Dk.step
 split
 .exact h
 .split
  .exact⟨h.n40,h.kl,h.nl,h.wl,by simp,by simp⟩
  .split
   .exact⟨h.n40,h.kl,h.nl,h.wl,by show -1<=d.fuse - 1; omega,by show d.fuse - 1<=_; omega⟩
   .exact⟨h.n40,h.kl,h.nl,h.wl,by simp,by simp⟩
def strs (l:List ByteArray):List Value:=l.map .string
def fC(l:List (Nat × ByteArray)):List Value:=l.flatMap λr=>[.int .i64 r.1,.string r.2]
theorem pP(l m:List (Nat × ByteArray)):fC (l ++ m)=fC l ++ fC m:=by simp[fC]
theorem u7(l:List (Nat × ByteArray)):∀u∈fC l,u.oneCell'=true:=by
 intro u hu;simp only[fC,List.mem_flatMap,List.mem_cons,List.mem_nil_iff,or_false]at hu
 obtain⟨r,_,h | h⟩:=hu<;>subst h<;>rfl
theorem oj(l:List ByteArray):∀u∈strs l,u.oneCell'=true:=by intro u hu;simp only[strs,List.mem_map]at hu;obtain⟨r,_,h⟩:=hu; subst h; rfl
def eY (w:World)(g:Nat)(l:List ByteArray):Prop :=
 ∃cur:Array Value,w.heap[g]?=some (.cells cur 9 (0,0))/\l.length<=cur.size/\cur.toList.take l.length=strs l
theorem eY.lt{w:World}{g:Nat}{l:List ByteArray}(h:eY w g l):g<w.heap.size:=by obtain⟨cur,h1,-⟩:=h;exact(Gl h1)
theorem eY.cell{w:World}{g:Nat}{l:List ByteArray}(h:eY w g l){i:Nat}(hi:i<l.length):w.cell? ⟨g,i,none⟩=some (.string l[i])/\w.frozen? ⟨g,i,none⟩=false:=by
 obtain⟨cur,h1,h2,h3⟩:=h;refine⟨?_,by simp[World.frozen?,h1]⟩
 have:(cur.toList.take l.length)[i]?=(strs l)[i]?:=by rw[h3]
 rw[List.getElem?_take_of_lt hi]at this;simp only[World.cell?,h1];simpa[strs,hi] using this
theorem eY.move{w w':World}{g:Nat}{l:List ByteArray}(h:eY w g l)(e:w'.heap[g]?=w.heap[g]?):eY w' g l:=by obtain⟨cur,h1,h2⟩:=h;exact⟨cur,e.trans h1,h2⟩
theorem eY.set{w:World}{g:Nat}{l:List ByteArray}(h:eY w g l)(i:Nat)(s:ByteArray):eY (w.setCell ⟨g,i,none⟩ (.string s)) g (l.set i s):=by obtain⟨cur,h1,h2,h3⟩:=h;refine⟨_,block_setCell h1 _,by simpa using h2,?_⟩;rw[Array.toList_setIfInBounds,List.length_set,List.take_set,h3];simp[strs,List.map_set]
theorem eY.put{w:World}{g:Nat}{l m:List ByteArray}(h:eY w g l)(cur:Array Value)(hc:w.heap[g]?=some (.cells cur 9 (0,0))):eY (w.setRow g (cur.toList.take 0 ++ strs m ++ cur.toList.drop (0+(strs m).length)).toArray) g m:=by
 obtain⟨cur',h1,h2,h3⟩:=h
 obtain rfl:cur'=cur:=by rw[h1]at hc; simpa using hc
 refine⟨_,setRow_heap _ _ _ _ _ _ h1,?_,?_⟩
 .simp[strs]
 .simp[strs]
structure jV (w:World) (T Tt:TypeId) (D K N ck cn:Nat) (wv:Value) (n:Nat) (d:Dk):Prop where
 blk:w.heap[D]?=some (.cells #[.slice (some ⟨K,0,none⟩) n ck,.slice (some ⟨N,0,none⟩) n cn,wv,.int .i64 d.fuse,.bool d.down] T (0,0))
 kept:eY w K d.kept
 now:eY w N d.now
 wait:w.ownsRow 0 Tt 2 wv d.wait.length (fC d.wait)
 kd:K≠D
 nd:N≠D
 kn:K≠N
 wd:wv.ownBlock≠some D
 wk:wv.ownBlock≠some K
 wn:wv.ownBlock≠some N
 nc:n<=ck/\n<=cn
def cX (S:Nat->Prop)(w:World)(T Tt:TypeId)(D n:Nat)(d:Dk):Prop :=
 ∃K N ck cn wv,jV w T Tt D K N ck cn wv n d/\S D/\S K/\S N/\∀k,wv.ownBlock=some k->S k
def grow (S:Nat->Prop)(w w':World):Nat->Prop:=λk=>S k\/w.heap.size<=k/\k<w'.heap.size
theorem AY{w:World}{B:Nat}{e:TypeId}{s:Nat}{v:Value}{n:Nat}{xs:List Value}(h:w.ownsRow B e s v n xs){k:Nat}(hk:v.ownBlock=some k):k<w.heap.size:=by
 rcases h.2 with⟨rfl,-⟩ | ⟨g,cap,cur,rfl,-,hg,-⟩
 .cases hk
 .obtain rfl:g=k:=by simpa[Value.ownBlock] using hk
  exact(Gl hg)
theorem il{w w':World}{B:Nat}{e:TypeId}{s:Nat}{v:Value}{n:Nat}{xs:List Value}(h:w.ownsRow B e s v n xs)(hb:∀k,v.ownBlock=some k->w'.heap[k]?=w.heap[k]?):w'.ownsRow B e s v n xs:=by
 refine⟨h.1,?_⟩
 rcases h.2 with h2 | ⟨g,cap,cur,rfl,e2,e3,e4⟩
 .exact .inl h2
 .exact .inr ⟨g,cap,cur,rfl,e2,(hb g rfl).trans e3,e4⟩
theorem jV.move{w w':World}{T Tt:TypeId}{D K N ck cn:Nat}{wv:Value}{n:Nat}{d:Dk}(h:jV w T Tt D K N ck cn wv n d)(hb:∀k,(k=D\/k=K\/k=N\/wv.ownBlock=some k)->w'.heap[k]?=w.heap[k]?):jV w' T Tt D K N ck cn wv n d :=
 ⟨(hb D (.inl rfl)).trans h.blk,h.kept.move (hb K (.inr (.inl rfl))),h.now.move (hb N (.inr (.inr (.inl rfl)))),il h.wait (λk hk=>hb k (.inr (.inr (.inr hk)))),h.kd,h.nd,h.kn,h.wd,h.wk,h.wn,h.nc⟩
theorem jV.lt{w:World}{T Tt:TypeId}{D K N ck cn:Nat}{wv:Value}{n:Nat}{d:Dk}(h:jV w T Tt D K N ck cn wv n d):D<w.heap.size:=(Gl h.blk)
theorem jV.below{w w':World}{T Tt:TypeId}{D K N ck cn:Nat}{wv:Value}{n:Nat}{d:Dk}(h:jV w T Tt D K N ck cn wv n d)(b:Below w.heap.size w w'):jV w' T Tt D K N ck cn wv n d :=
 h.move (λk hk=>b.block k (by
  rcases hk with e | e | e | e
  .exact e▸h.lt
  .exact e▸h.kept.lt
  .exact e▸h.now.lt
  .exact AY h.wait e))
theorem cX.keeps{S R:Nat->Prop}{w w':World}{T Tt:TypeId}{D n:Nat}{d:Dk}(h:cX S w T Tt D n d)(k:ac R w w')(hd:∀b,S b->¬ R b):cX S w' T Tt D n d:=by
 obtain⟨K,N,ck,cn,wv,r,s1,s2,s3,s4⟩:=h;refine⟨K,N,ck,cn,wv,r.move (λb hb=>k.block b (hd b ?_) ?_),s1,s2,s3,s4⟩
 .rcases hb with e | e | e | e
  .exact e▸s1
  .exact e▸s2
  .exact e▸s3
  .exact s4 _ e
 .rcases hb with e | e | e | e
  .exact e▸r.lt
  .exact e▸r.kept.lt
  .exact e▸r.now.lt
  .exact AY r.wait e
theorem cX.below{S:Nat->Prop}{w w':World}{T Tt:TypeId}{D n:Nat}{d:Dk}(h:cX S w T Tt D n d)(b:Below w.heap.size w w'):cX S w' T Tt D n d:=by obtain⟨K,N,ck,cn,wv,r,s1,s2,s3,s4⟩:=h;exact⟨K,N,ck,cn,wv,r.below b,s1,s2,s3,s4⟩
theorem cX.mono{S R:Nat->Prop}{w:World}{T Tt:TypeId}{D n:Nat}{d:Dk}(h:cX S w T Tt D n d)(hs:∀k,S k->R k):cX R w T Tt D n d:=by obtain⟨K,N,ck,cn,wv,r,s1,s2,s3,s4⟩:=h;exact⟨K,N,ck,cn,wv,r,hs _ s1,hs _ s2,hs _ s3,λk hk=>hs _ (s4 k hk)⟩
theorem jV.cells{w:World}{T Tt:TypeId}{D K N ck cn:Nat}{wv:Value}{n:Nat}{d:Dk}(h:jV w T Tt D K N ck cn wv n d) : (w.cell? ⟨D,0,none⟩=some (.slice (some ⟨K,0,none⟩) n ck)/\w.cell? ⟨D,1,none⟩=some (.slice (some ⟨N,0,none⟩) n cn)/\w.cell? ⟨D,2,none⟩=some wv/\w.cell? ⟨D,3,none⟩=some (.int .i64 d.fuse)/\w.cell? ⟨D,4,none⟩=some (.bool d.down)) /\ w.frozen? ⟨D,0,none⟩=false/\w.frozen? ⟨D,1,none⟩=false/\w.frozen? ⟨D,2,none⟩=false/\w.frozen? ⟨D,3,none⟩=false/\w.frozen? ⟨D,4,none⟩=false:=by
 simp[World.cell?,World.frozen?,h.blk]
theorem jV.setF{w:World}{T Tt:TypeId}{D K N ck cn:Nat}{wv:Value}{n:Nat}{d:Dk}(h:jV w T Tt D K N ck cn wv n d)(f:Int):jV (w.setCell ⟨D,3,none⟩ (.int .i64 f)) T Tt D K N ck cn wv n { d with fuse:=f }:=by have o:∀k,k≠D->(w.setCell ⟨D,3,none⟩ (.int .i64 f)).heap[k]?=w.heap[k]?:=λk hk=>Below.heap_setCell _ _ _ _ hk;exact⟨block_setCell h.blk _,h.kept.move (o K h.kd),h.now.move (o N h.nd),il h.wait (λk hk=>o k (λe=>h.wd (e▸hk))),h.kd,h.nd,h.kn,h.wd,h.wk,h.wn,h.nc⟩
theorem jV.setD{w:World}{T Tt:TypeId}{D K N ck cn:Nat}{wv:Value}{n:Nat}{d:Dk}(h:jV w T Tt D K N ck cn wv n d)(f:Bool):jV (w.setCell ⟨D,4,none⟩ (.bool f)) T Tt D K N ck cn wv n { d with down:=f }:=by have o:∀k,k≠D->(w.setCell ⟨D,4,none⟩ (.bool f)).heap[k]?=w.heap[k]?:=λk hk=>Below.heap_setCell _ _ _ _ hk;exact⟨block_setCell h.blk _,h.kept.move (o K h.kd),h.now.move (o N h.nd),il h.wait (λk hk=>o k (λe=>h.wd (e▸hk))),h.kd,h.nd,h.kn,h.wd,h.wk,h.wn,h.nc⟩
theorem Tryz.infoU8:(Tryz.prog.info? 5).map (λi=>(i.zero,i.size,i.bytes))=some (some (.int .u8 0),1,1):=by kernel_rfl
theorem mJ(n:Nat):(i8 n).size=n:=by unfold i8; rw[strOfNums_size]; simp
theorem yD{w:World}{B b n:Nat}(h:w.ownsRow B 5 1 (.slice (some ⟨b,0,none⟩) n n) n (madeCells #[.int .u8 0] n).toList) : ∀i,i<n->w.cell? ⟨b,0+i,none⟩=some (.int .u8 ((List.replicate n 0).getD i 0)):=by
 intro i hi
 rcases h.2 with⟨e,-⟩ | ⟨g,cap,cur,e,-,hg,-,-,-,ht⟩
 .cases e
 .obtain⟨rfl,rfl⟩:b=g/\n=cap:=by simpa using e
  have h1:(cur.toList.take (n*1))[i]?=((madeCells #[.int .u8 0] n).toList)[i]?:=by rw[ht]
  rw[List.getElem?_take_of_lt (by omega)]at h1
  have h2:((madeCells #[.int .u8 0] n).toList)[i]?=some (.int .u8 0):=by simp[madeCells,hi,Nat.mod_one]
  rw[h2]at h1
  have h3:(List.replicate n (0:Int)).getD i 0=0:=by simp[List.getD,hi]
  rw[h3];simp only[World.cell?,hg,Nat.zero_add];simpa using h1
theorem wQ{w:World}{B b n:Nat}(h:w.ownsRow B 5 1 (.slice (some ⟨b,0,none⟩) n n) n (madeCells #[.int .u8 0] n).toList) : (convert 195 9 (.slice (some ⟨b,0,none⟩) n n)).run Tryz.prog w=.ok (.string (i8 n)) w :=
 run_convert_bytes_arg w 195 5 Tryz.underlying195 Tryz.underlying5 b 0 n n (List.replicate n 0) (by simp) (yD h) 9 Tryz.underlying9
theorem uH(s:ByteArray)(w:World)(hs:s.size<=64) : Calls Tryz.prog 74 #[.string s] w λe w'=>e=.returned (.string (bJ s))/\Below w.heap.size w w':=by
 obtain⟨i0,hi,Ij,Ii,Im⟩:=info_parts Tryz.infoU8;obtain⟨n,hn⟩:=Nm (64 - s.size)
 have q:IntKind.i64.wrap (64 - (s.size:Int))=(n:Int):=by rw[IntWalk.i64_in _ (by omega)]; omega
 have HN:=Hx (show n<=64 by omega);rw[show bJ s=s ++ i8 n from by rw[<-hn]; rfl];have Jm:=λw=>run_string_add_sum (P:=Tryz.prog) w s (i8 n) (by rw[mJ]; omega);clear hs hn;go_enter Tryz.func74,Tryz.ntmps74
 go_wp2_with (refine wpList_make_full _ rfl _ _ 195 rfl w.heap.size 5 i0 (.int .u8 0) 1 Tryz.underlying195 hi Ij Ii .i64 .i64 n n n rfl rfl rfl rfl ?b2 ?b3 (Nat.le_refl _) ?_)
 case b2=>have:=HN.out; rw[Im]; omega
 case b3=>have:=HN.out; unfold maxLen; omega
 intro w1 ec hg;have hcv:=wQ ec;have B1:=Hs (Below w.heap.size w w1) ((Below.refl _ _).grown hg (by simp) (λk hk=>by simp at hk));clear ec hg;go_wp2;go_ret;exact⟨rfl,B1.out⟩
theorem Bd(f:Int)(h:-1<=f):(if 0<f then f - 1 else -1)=max (f - 1) (-1):=by split<;>omega
set_option maxRecDepth 100000 in
theorem tJ(w:World)(D K N ck cn n:Nat)(wv:Value)(d:Dk)(h:jV w 152 197 D K N ck cn wv n d)(hf:-1<=d.fuse/\d.fuse<=9223372036854775807) : Calls Tryz.prog 119 #[.pointer (some ⟨D,0,none⟩)] w λe w'=>e=.returned (bg (if d.steps then 0 else 10))/\jV w' 152 197 D K N ck cn wv n d.step/\ac (·=D) w w':=by
 obtain⟨kept,now,wait,f,b⟩:=d;have H:=Hx h;obtain⟨⟨c0,c1,c2,c3,c4⟩,f0,f1,f2,f3,f4⟩:=h.cells;dsimp only at c3 c4 hf;clear h;cases b
 .by_cases hz:f=0
  .subst hz;have H2:=Hx ((H.out.setD true).setF (-1));have KP:=Hx (((ac.refl (·=D) w).setCell (p:=⟨D,4,none⟩) rfl (.bool true)).setCell (p:=⟨D,3,none⟩) rfl (.int .i64 (-1)));clear hf;go_enter Tryz.func119,Tryz.ntmps119
   go_wp2;go_ret;exact⟨rfl,H2.out,KP.out⟩
  .have H2:=Hx (H.out.setF (max (f - 1) (-1)));have KP:=Hx ((ac.refl (·=D) w).setCell (p:=⟨D,3,none⟩) rfl (.int .i64 (max (f - 1) (-1))));have q1:IntKind.i64.wrap (f - 1)=f - 1:=IntWalk.i64_in _ (by omega)
   have q2:(f == 0)=false:=by simp[hz]
   have HS:=Hs (Dk.step ⟨kept,now,wait,f,false⟩=⟨kept,now,wait,max (f - 1) (-1),false⟩) (by
    unfold Dk.step
    rw[if_neg (by simp),if_neg hz,<-Bd f hf.1])
   have HT:=Hs (Dk.steps ⟨kept,now,wait,f,false⟩=true) (by unfold Dk.steps; simp[hz]);clear hf;rw[HS.out,HT.out];clear hz HS HT;go_enter Tryz.func119,Tryz.ntmps119
   go_wp2;go_ret;exact⟨rfl,H2.out,KP.out⟩
 .clear hf;go_enter Tryz.func119,Tryz.ntmps119
  go_wp2;go_ret;exact⟨rfl,H.out,ac.refl _ _⟩
