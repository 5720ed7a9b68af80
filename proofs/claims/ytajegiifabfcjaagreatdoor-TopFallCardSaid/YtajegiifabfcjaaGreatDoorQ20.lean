/-
  What the walk of the document's Ordered keeps.
-/
import Derived.Test.YtajegiifabfcjaaGreatDoorQ19
import Derived.Maps.AppendAt
namespace Go.Proofs.YtajegiifabfcjaaGreatDoor
open Go.RowKit Go.Sort
def OrdPost (a0:Option Addr) (r:St × List (Int × Int) × Int) (w:World) (e:Ending) (w':World):Prop :=
 ∃ a cap v,e=.returned (.tuple #[.agg #[.int .i64 r.1.gen,.slice a r.1.regs.length cap,.int .i64 r.1.typ,.int .i64 r.1.holder,.bool r.1.stays],v,.int .i64 r.2.2])∧StR w' r.1 a∧OwnT w.heap.size w' v r.2.1∧Below w.heap.size w w'∧(a=a0∨∀ b o,a=some ⟨b,o,none⟩→w.heap.size≤b)
theorem ord_err {a0:Option Addr} {r:St × List (Int × Int) × Int} {w w2 w':World} {f:Int} (hp:r=(St.zero,[],f)) (hb:Below w.heap.size w w2) (k:Keeps (·=w.heap.size+1+1) w2 w') :
  OrdPost a0 r w (.returned (.tuple #[.agg #[.int .i64 0,.slice none 0 0,.int .i64 0,.int .i64 0,.bool false],.slice none 0 0,.int .i64 f])) w':=by
 subst hp
 exact ⟨none,0,_,rfl,⟨by simp [St.zero],Pairs.nil _ _ _⟩,own_none _ _,hb.trans (k.below hb.size (fun m hm=>by omega)),.inr (fun b o e=>by cases e)⟩
structure OB (w:World) (s:St) (a:Option Addr) (cap:Nat) (c:Cmd) (wx:World):Prop where
 below:Below w.heap.size w wx
 hS:wx.heap[w.heap.size]?=some (.cells #[.int .i64 s.gen,.slice a s.regs.length cap,.int .i64 s.typ,.int .i64 s.holder,.bool s.stays] 35 (0,0))
 hC:wx.heap[w.heap.size+1]?=some (.cells #[.int .i64 c.op,.int .i64 c.who,.int .i64 c.key,.int .i64 c.new,.int .i64 c.typ,.int .i64 c.at',.bool c.stays,.string c.data,.string c.want] 37 (0,0))
 hZ:wx.heap[w.heap.size+1+1]?=some (.cells #[.int .i64 0,.slice none 0 0,.int .i64 0,.int .i64 0,.bool false] 35 (0,0))
section
variable {w wx w':World} {s:St} {a:Option Addr} {cap:Nat} {c:Cmd}
theorem OB.lt (f:OB w s a cap c wx):w.heap.size+1+1<wx.heap.size:=(Array.getElem?_eq_some_iff.1 f.hZ).1
theorem OB.over (f:OB w s a cap c wx) (b:Below wx.heap.size wx w'):OB w s a cap c w':=by
 have h:=f.lt
 exact ⟨f.below.trans (b.mono f.below.size),(b.block _ (by omega)).trans f.hS,(b.block _ (by omega)).trans f.hC,(b.block _ h).trans f.hZ⟩
theorem OB.side (f:OB w s a cap c wx) (k:Keeps (fun b=>w.heap.size+1+1<b) wx w'):OB w s a cap c w':=by
 have h:=f.lt
 exact ⟨f.below.trans (k.below f.below.size (fun m hm=>by omega)),(k.block _ (by omega) (by omega)).trans f.hS,(k.block _ (by omega) (by omega)).trans f.hC,(k.block _ (by omega) h).trans f.hZ⟩
theorem OB.s5 (f:OB w s a cap c wx):wx.cell? ⟨w.heap.size,0,none⟩=some (.int .i64 s.gen)∧wx.cell? ⟨w.heap.size,1,none⟩=some (.slice a s.regs.length cap)∧wx.cell? ⟨w.heap.size,2,none⟩=some (.int .i64 s.typ)∧wx.cell? ⟨w.heap.size,3,none⟩=some (.int .i64 s.holder)∧wx.cell? ⟨w.heap.size,4,none⟩=some (.bool s.stays):=by
 have:=f.hS; simp [World.cell?,this]
theorem OB.c7 (f:OB w s a cap c wx):wx.cell? ⟨w.heap.size+1,0,none⟩=some (.int .i64 c.op)∧wx.cell? ⟨w.heap.size+1,1,none⟩=some (.int .i64 c.who)∧wx.cell? ⟨w.heap.size+1,2,none⟩=some (.int .i64 c.key)∧wx.cell? ⟨w.heap.size+1,3,none⟩=some (.int .i64 c.new)∧wx.cell? ⟨w.heap.size+1,4,none⟩=some (.int .i64 c.typ)∧wx.cell? ⟨w.heap.size+1,6,none⟩=some (.bool c.stays):=by
 have:=f.hC; simp [World.cell?,this]
theorem OB.z5 (f:OB w s a cap c wx):(wx.cell? ⟨w.heap.size+1+1,0,none⟩=some (.int .i64 0)∧wx.cell? ⟨w.heap.size+1+1,1,none⟩=some (.slice none 0 0)∧wx.cell? ⟨w.heap.size+1+1,2,none⟩=some (.int .i64 0)∧wx.cell? ⟨w.heap.size+1+1,3,none⟩=some (.int .i64 0)∧wx.cell? ⟨w.heap.size+1+1,4,none⟩=some (.bool false)) ∧
  (wx.frozen? ⟨w.heap.size+1+1,0,none⟩=false∧wx.frozen? ⟨w.heap.size+1+1,1,none⟩=false∧wx.frozen? ⟨w.heap.size+1+1,2,none⟩=false∧wx.frozen? ⟨w.heap.size+1+1,3,none⟩=false∧wx.frozen? ⟨w.heap.size+1+1,4,none⟩=false):=by
 have:=f.hZ; simp [World.cell?,World.frozen?,this]
end
structure TR (B:Nat) (a:Option Addr) (l:List (Int × Int)) (w4:World) (T:Nat) (r:St) (a3:Option Addr) (c3:Nat) (wx:World):Prop where
 bt:B≤T
 tl:T<w4.heap.size
 lp:Pairs B w4 a l
 al:(a3=a∧r.regs.length≤l.length)∨∀ b o,a3=some ⟨b,o,none⟩→w4.heap.size≤b
 hT:wx.heap[T]?=some (.cells #[.int .i64 r.gen,.slice a3 r.regs.length c3,.int .i64 r.typ,.int .i64 r.holder,.bool r.stays] 35 (0,0))
 str:StR wx r a3
 keeps:Keeps (·=T) w4 wx
section
variable {B:Nat} {a:Option Addr} {l:List (Int × Int)} {w4 wx w':World} {T:Nat} {r r':St} {a3 a3':Option Addr} {c3 c3':Nat}
theorem TR.lt (f:TR B a l w4 T r a3 c3 wx):T<wx.heap.size:=(Array.getElem?_eq_some_iff.1 f.hT).1
theorem TR.apart (f:TR B a l w4 T r a3 c3 wx) {i:Nat} (hi:i<r.regs.length):∀ b o,a3=some ⟨b,o,none⟩→b<B∨w4.heap.size≤b:=by
 intro b o e
 rcases f.al with ⟨rfl,h⟩ | h
 ·obtain ⟨b',o',e',hb,-⟩:=f.lp i (by omega)
  rw [e] at e'; cases e'
  exact .inl hb
 ·exact .inr (h b o e)
theorem TR.over (f:TR B a l w4 T r a3 c3 wx) (b:Below wx.heap.size wx w'):TR B a l w4 T r a3 c3 w' :=
 ⟨f.bt,f.tl,f.lp,f.al,(b.block _ f.lt).trans f.hT,f.str.below b,f.keeps.trans (Keeps.of_below b)⟩
theorem TR.next (f:TR B a l w4 T r a3 c3 wx) (k:Keeps (·=T) wx w') (h:w'.heap[T]?=some (.cells #[.int .i64 r'.gen,.slice a3' r'.regs.length c3',.int .i64 r'.typ,.int .i64 r'.holder,.bool r'.stays] 35 (0,0)))
  (hs:StR wx r' a3') (al:(a3'=a∧r'.regs.length≤l.length)∨∀ b o,a3'=some ⟨b,o,none⟩→w4.heap.size≤b):TR B a l w4 T r' a3' c3' w':=by
 refine ⟨f.bt,f.tl,f.lp,al,h,⟨hs.len,fun i hi=>?_⟩,f.keeps.trans k⟩
 obtain ⟨b,o,e,hb1,c1,c2⟩:=hs.rep i hi
 have hn:b≠T:=by
  have:=f.bt; have:=f.tl
  rcases al with ⟨rfl,hl⟩ | hA
  ·obtain ⟨b',o',e',hb',-⟩:=f.lp i (by omega)
   rw [e] at e'; cases e'
   omega
  ·have:=hA b o e; omega
 exact ⟨b,o,e,Nat.lt_of_lt_of_le hb1 k.size,by rw [k.cell hn hb1]; exact c1,by rw [k.cell hn hb1]; exact c2⟩
theorem TR.moves {S:Nat→Prop} (f:TR B a l w4 T r a3 c3 wx) (k:Keeps S wx w') (hS:∀ b,S b→w4.heap.size≤b) (ha:0<r.regs.length→∀ b o,a3=some ⟨b,o,none⟩→¬ S b):TR B a l w4 T r a3 c3 w':=by
 have hbt:=f.bt; have htl:=f.tl
 refine ⟨f.bt,f.tl,f.lp,f.al,(k.block _ (fun h=>by have:=hS _ h; omega) f.lt).trans f.hT,⟨f.str.len,fun i hi=>?_⟩,
  ⟨k.os.trans f.keeps.os,k.tape.trans f.keeps.tape,k.output.trans f.keeps.output,Nat.le_trans f.keeps.size k.size,fun b hb hs=>(k.block b (fun h=>by have:=hS _ h; omega) (Nat.lt_of_lt_of_le hs f.keeps.size)).trans (f.keeps.block b hb hs)⟩⟩
 obtain ⟨b,o,e,hb1,c1,c2⟩:=f.str.rep i hi
 have hn:=ha (by omega) b o e
 exact ⟨b,o,e,Nat.lt_of_lt_of_le hb1 k.size,by rw [k.cell hn hb1]; exact c1,by rw [k.cell hn hb1]; exact c2⟩
theorem TR.t5 (f:TR B a l w4 T r a3 c3 wx):(wx.cell? ⟨T,0,none⟩=some (.int .i64 r.gen)∧wx.cell? ⟨T,1,none⟩=some (.slice a3 r.regs.length c3)∧wx.cell? ⟨T,2,none⟩=some (.int .i64 r.typ)∧wx.cell? ⟨T,3,none⟩=some (.int .i64 r.holder)∧wx.cell? ⟨T,4,none⟩=some (.bool r.stays)) ∧
  (wx.frozen? ⟨T,0,none⟩=false∧wx.frozen? ⟨T,1,none⟩=false∧wx.frozen? ⟨T,2,none⟩=false∧wx.frozen? ⟨T,3,none⟩=false∧wx.frozen? ⟨T,4,none⟩=false):=by
 have:=f.hT; simp [World.cell?,World.frozen?,this]
def put5 (wx:World) (T:Nat) (r:St) (a3:Option Addr) (c3:Nat):World:=((((wx.setCell ⟨T,0,none⟩ (.int .i64 r.gen)).setCell ⟨T,1,none⟩ (.slice a3 r.regs.length c3)).setCell ⟨T,2,none⟩ (.int .i64 r.typ)).setCell ⟨T,3,none⟩ (.int .i64 r.holder)).setCell ⟨T,4,none⟩ (.bool r.stays)
theorem put5_keeps (wx:World) (T:Nat) (r:St) (a3:Option Addr) (c3:Nat):Keeps (·=T) wx (put5 wx T r a3 c3):=keeps_set (keeps_set (keeps_set (keeps_set (keeps_set (Keeps.refl _ _) _ _) _ _) _ _) _ _) _ _
theorem put5_at {x0 x1 x2 x3 x4:Value} {Ty:TypeId} (h:wx.heap[T]?=some (.cells #[x0,x1,x2,x3,x4] Ty (0,0))) (r:St) (a3:Option Addr) (c3:Nat):(put5 wx T r a3 c3).heap[T]?=some (.cells #[.int .i64 r.gen,.slice a3 r.regs.length c3,.int .i64 r.typ,.int .i64 r.holder,.bool r.stays] Ty (0,0)) :=
 block_setCell (block_setCell (block_setCell (block_setCell (block_setCell h _) _) _) _) _
theorem TR.put (f:TR B a l w4 T r a3 c3 wx) (r':St) (a3':Option Addr) (c3':Nat) (hs:StR wx r' a3') (al:(a3'=a∧r'.regs.length≤l.length)∨∀ b o,a3'=some ⟨b,o,none⟩→w4.heap.size≤b):TR B a l w4 T r' a3' c3' (put5 wx T r' a3' c3') :=
 f.next (put5_keeps _ _ _ _ _) (put5_at f.hT _ _ _) hs al
theorem TR.ob {w:World} {s:St} {cap:Nat} {c:Cmd} (f:TR B a l w4 T r a3 c3 wx) (b:OB w s a cap c w4) (h:w.heap.size+1+1<T):OB w s a cap c wx:=b.side (f.keeps.mono (fun k hk=>by omega))
theorem ord_fin {q:St × List (Int × Int) × Int} {w:World} {lt:List (Int × Int)} {v:Value} (hp:q=(r,lt,0)) (hb:Below w.heap.size w wx) (tr:TR w.heap.size a l w4 T r a3 c3 wx) (ho:OwnT w4.heap.size wx v lt) (h4:w.heap.size+1+1<w4.heap.size) (k:Keeps (·=w.heap.size+1+1) wx w') :
  OrdPost a q w (.returned (.tuple #[.agg #[.int .i64 r.gen,.slice a3 r.regs.length c3,.int .i64 r.typ,.int .i64 r.holder,.bool r.stays],v,.int .i64 0])) w':=by
 subst hp
 refine ⟨a3,c3,v,rfl,⟨tr.str.len,fun i hi=>?_⟩,(ho.keeps k (fun m hm=>by omega)).mono (by omega),hb.trans (k.below hb.size (fun m hm=>by omega)),?_⟩
 rotate_left 1
 ·rcases tr.al with ⟨e,-⟩ | h
  ·exact .inl e
  ·exact .inr (fun b o e=>by have:=h b o e; omega)
 obtain ⟨b,o,e,hb1,c1,c2⟩:=tr.str.rep i hi
 have hn:b≠w.heap.size+1+1:=by have:=tr.apart hi b o e; omega
 exact ⟨b,o,e,Nat.lt_of_lt_of_le hb1 k.size,by rw [k.cell hn hb1]; exact c1,by rw [k.cell hn hb1]; exact c2⟩
end
theorem rwith_x (g:Int) (l:List (Int × Int)) (t h:Int) (st:Bool) (a:Option Addr) (cap:Nat) (who key:Int) (w:World) (hr:StR w ⟨g,l,t,h,st⟩ a) (hl:l.length≤50) (hk:0≤key) (hs:l.Pairwise (fun a b=>a.1<b.1)) (L:List (Int × Int)) (hL:withL l who key=L) :
  Calls Tryz.prog 70 #[.agg #[.int .i64 g,.slice a l.length cap,.int .i64 t,.int .i64 h,.bool st],.int .i64 who,.int .i64 key] w fun e w'=>∃ a' c',e=.returned (.agg #[.int .i64 g,.slice a' L.length c',.int .i64 t,.int .i64 h,.bool st])∧StR w' ⟨g,L,t,h,st⟩ a'∧Below w.heap.size w w'∧(∀ b o,a'=some ⟨b,o,none⟩→w.heap.size≤b):=by
 subst hL
 exact rwith_lo ⟨g,l,t,h,st⟩ a cap who key w hr hl hk hs
theorem rothers_x (g:Int) (l:List (Int × Int)) (t h:Int) (st:Bool) (a:Option Addr) (cap:Nat) (who:Int) (w:World) (hr:StR w ⟨g,l,t,h,st⟩ a) (hl:l.length≤100) (O:List Int) (hO:othersL who l=O) :
  Calls Tryz.prog 73 #[.agg #[.int .i64 g,.slice a l.length cap,.int .i64 t,.int .i64 h,.bool st],.int .i64 who] w fun e w'=>∃ a' c',e=.returned (.slice a' O.length c')∧Ints w'.heap.size w' a' O∧Below w.heap.size w w':=by
 subst hO
 refine (rothers_any ⟨g,l,t,h,st⟩ a cap who w hr hl).mono ?_
 rintro e w' ⟨v,rfl,hown,hb⟩
 obtain ⟨a',c',rfl,hi⟩:=hown.shape
 exact ⟨a',c',rfl,hi,hb⟩
theorem racts_gen {s r:St} {c:Cmd} {lt:List (Int × Int)} (h:(racts s c).1=some (r,lt)):r.gen=s.gen:=by
 unfold racts at h
 split at h
 ·simp only [Option.some.injEq] at h
  have:(rregister s c).1.gen=s.gen:=by unfold rregister; dsimp only; (repeat' split) <;> rfl
  rw [h] at this; exact this
 split at h
 ·split at h
  ·simp only [Option.some.injEq,Prod.mk.injEq] at h; rw [← h.1]; rfl
  ·split at h
   ·cases h
   ·simp only [Option.some.injEq,Prod.mk.injEq] at h; rw [← h.1]
 split at h
 ·split at h
  ·cases h
  ·split at h
   ·simp only [Option.some.injEq,Prod.mk.injEq] at h; rw [← h.1]; rfl
   ·simp only [Option.some.injEq,Prod.mk.injEq] at h; rw [← h.1]
 split at h
 ·simp only [Option.some.injEq,Prod.mk.injEq] at h; rw [← h.1]; rfl
 split at h
 ·unfold rpreempt at h
  split at h
  ·cases h
  ·split at h
   ·cases h
   ·dsimp only at h
    split at h
    ·simp only [Option.some.injEq,Prod.mk.injEq] at h; rw [← h.1]; rfl
    ·simp only [Option.some.injEq,Prod.mk.injEq] at h; rw [← h.1]; rfl
 ·simp only [Option.some.injEq,Prod.mk.injEq] at h; rw [← h.1]
theorem left_hit (who key:Int) (l:List (Int × Int)) (k:Nat) (h:k<l.length) (e:(decide (l[k].1≠who) && !outB who key l[k])=false):leftL who key (l.take (k+1))=leftL who key (l.take k):=by
 unfold leftL
 rw [List.take_succ_eq_append_getElem h,List.filter_append,List.filter_cons_of_neg (by rw [e]; simp)]
 simp
theorem left_miss (who key:Int) (l:List (Int × Int)) (k:Nat) (h:k<l.length) (e:(decide (l[k].1≠who) && !outB who key l[k])=true):leftL who key (l.take (k+1))=leftL who key (l.take k) ++ [l[k].1]:=by
 unfold leftL
 rw [List.take_succ_eq_append_getElem h,List.filter_append,List.filter_cons_of_pos (by rw [e])]
 simp
theorem left_len (who key:Int) (l:List (Int × Int)):(leftL who key l).length≤l.length:=by
 unfold leftL
 rw [List.length_map]
 exact List.length_filter_le _ _
theorem putOut_snoc (l:List (Int × Int)) (G:List Int) (x:Int):putOut l (G ++ [x])=withL (putOut l G) x 0:=by unfold putOut; simp
theorem own_at {B:Nat} {w:World} {v:Value} {l:List Int} (h:OwnI B w v l) {k:Nat} (hk:v.ownBlock=some k):B≤k∧k<w.heap.size:=by
 refine ⟨h.blk k hk,?_⟩
 obtain ⟨_,h2⟩:=h
 rcases h2 with ⟨rfl,_⟩ | ⟨g,cap,cur,rfl,hg,hh,_⟩
 ·cases hk
 ·simp [Value.ownBlock] at hk; subst hk; exact (Array.getElem?_eq_some_iff.1 hh).1
theorem own_moves {S:Nat→Prop} {B:Nat} {w w':World} {v:Value} {l:List Int} (h:OwnI B w v l) (k:Keeps S w w') (hS:∀ b,v.ownBlock=some b→¬ S b):OwnI B w' v l:=by
 obtain ⟨h1,h2⟩:=h
 refine ⟨h1,?_⟩
 rcases h2 with h2 | ⟨g,cap,cur,e1,e2,e3,e4⟩
 ·exact .inl h2
 ·refine .inr ⟨g,cap,cur,e1,e2,?_,e4⟩
  rw [k.block g (hS g (by rw [e1]; rfl)) (Array.getElem?_eq_some_iff.1 e3).1]
  exact e3
theorem row_newI (w:World) (cs:Array Value) (T:TypeId):∀ j u,cs.toList[j]?=some u→(w.alloc (.cells cs T)).cell? ((⟨w.heap.size,0,none⟩:Addr).add j)=some u:=by
 intro j u h
 have e:(⟨w.heap.size,0,none⟩:Addr).add j=⟨w.heap.size,0+j,none⟩:=by unfold Addr.add; split <;> simp_all
 rw [e,Nat.zero_add]
 have hh:=heap_alloc_new w (.cells cs T)
 unfold World.cell?
 simp only [hh]
 simpa using h
def GoRel (B:Nat) (a:Option Addr) (l:List (Int × Int)) (g t h:Int) (st:Bool) (w4:World) (T:Nat) (G F:Nat→List Int) (PL:Nat→List (Int × Int)) (vg vl i:Value) (wx:World):Prop :=
 ∃ (k:Nat) (a3:Option Addr) (c3:Nat),k≤l.length∧i=.int .i64 k∧TR B a l w4 T ⟨g,PL k,t,h,st⟩ a3 c3 wx∧OwnI w4.heap.size wx vg (G k)∧OwnI w4.heap.size wx vl (F k) ∧
  (∀ q,vg.ownBlock=some q→vl.ownBlock≠some q)∧(∀ q b o,0<(PL k).length→a3=some ⟨b,o,none⟩→(vg.ownBlock=some q∨vl.ownBlock=some q)→b≠q)
theorem results_r3 {P:Program} {fn:Func} {p q r:Tmp} {ty:TypeId} (h:fn.results=#[.cell p ty,.tmp q,.tmp r]) (tmps:Array Value) (w:World) (g:Nat) (t:TypeId) (cs:Array Value) (d:TypeDesc) (v u:Value)
  (hp:tmps.getD p undef=.pointer (some ⟨g,0,none⟩)) (hq:tmps.getD q undef=v) (hr:tmps.getD r undef=u) (hg:w.heap[g]?=some (.cells cs t (0,0)))
  (hu:P.underlying ty=some d) (hd:(match d with | .struct _ | .array _ _=>true | _=>false)=true) (hi:(P.info? ty).map (·.size)=some cs.size) :
  (results fn tmps).run P w=.ok (.tuple #[.agg cs,v,u]) w:=by
 have hp':tmps[p]?.getD undef=.pointer (some ⟨g,0,none⟩):=by simpa using hp
 have hq':tmps[q]?.getD undef=v:=by simpa using hq
 have hr':tmps[r]?.getD undef=u:=by simpa using hr
 simp [results,h,hp',hq',hr',asAddr,run_loadVar_row w g t ty cs (0,0) d hg hu hd hi]
theorem st_row:Tryz.prog.underlying 35=some (.struct (Tryz.prog.fieldsOf 35))∧(Tryz.prog.info? 35).map (·.size)=some 5:=by constructor <;> kernel_rfl
end Go.Proofs.YtajegiifabfcjaaGreatDoor
