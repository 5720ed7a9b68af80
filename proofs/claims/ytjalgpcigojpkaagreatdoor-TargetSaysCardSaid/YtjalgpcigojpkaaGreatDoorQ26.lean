import Derived.Test.YtjalgpcigojpkaaGreatDoorQ25
set_option maxRecDepth 99999
set_option maxHeartbeats 99999999
namespace Go.Proofs.YtjalgpcigojpkaaGreatDoor
section
open Go.RowKit
theorem Ej(n e:Int)(s:St):aQ (fJ n e s)=(⟨#[107,32]⟩:ByteArray) ++ aQ (Lib.itoa n) ++ ⟨#[32]⟩ ++ aQ (Lib.itoa e) ++ ⟨#[32]⟩ ++ aQ (Lib.itoa (aP s).length) ++ ⟨#[32]⟩ ++ aQ (aP s):=by rw[show(⟨#[107,32]⟩:ByteArray)=aQ [107,32] from rfl,show(⟨#[32]⟩:ByteArray)=aQ [32] from rfl];simp only[ez];simp[fJ]
theorem yW(n e:Int)(s:St)(a:Option Addr)(cap:Nat)(w:World)(t:Tabs w)(hr:bj w s a)(hk:l5 n e s) : Calls Tryz.prog 120 #[.int .i64 n,.int .i64 e,dh s a cap] w λe' w'=>e'=.returned (.string (aQ (fJ n e s)))/\Below w.heap.size w w':=by
 have HK:=Hx hk;have TT:=Hx t;have HR:=Hx hr;clear hk t hr;have l1:=bM n (by have:=HK.out.n0; omega) (by have:=HK.out.n1; omega);have l2:=bM e (by have:=HK.out.e0; omega) (by have:=HK.out.e1; omega);have l3:=HK.out.g.text_len;have l4:=bM ((aP s).length:Int) (by omega) (by omega);obtain⟨A,hA⟩:=Nn (aQ (Lib.itoa n));obtain⟨B,hB⟩:=Nn (aQ (Lib.itoa e));obtain⟨C,hC⟩:=Nn (aQ (Lib.itoa ((aP s).length:Int)));obtain⟨D,hD⟩:=Nn (aQ (aP s))
 have sA:A.size<=20:=by rw[hA,bp]; exact l1
 have sB:B.size<=20:=by rw[hB,bp]; exact l2
 have sC:C.size<=20:=by rw[hC,bp]; exact l4
 have sD:D.size<=48:=by rw[hD,bp]; exact l3
 have HA:=Hx hA;have HB:=Hx hB;have HC:=Hx hC;have HD:=Hx hD;have HL:=Hs ((D.size:Int)=((aP s).length:Int)) (by rw[hD,bp]);have z1:(⟨#[32]⟩:ByteArray).size=1:=rfl;have z2:(⟨#[107,32]⟩:ByteArray).size=2:=rfl;have a1:=λw=>run_string_add_sum (P:=Tryz.prog) w (⟨#[107,32]⟩:ByteArray) A (by simp only[z2]; omega);have a2:=λw=>run_string_add_sum (P:=Tryz.prog) w ((⟨#[107,32]⟩:ByteArray) ++ A) ⟨#[32]⟩ (by simp only[ByteArray.size_append,z1,z2]; omega);have a3:=λw=>run_string_add_sum (P:=Tryz.prog) w ((⟨#[107,32]⟩:ByteArray) ++ A ++ ⟨#[32]⟩) B (by simp only[ByteArray.size_append,z1,z2]; omega);have a4:=λw=>run_string_add_sum (P:=Tryz.prog) w ((⟨#[107,32]⟩:ByteArray) ++ A ++ ⟨#[32]⟩ ++ B) ⟨#[32]⟩ (by simp only[ByteArray.size_append,z1,z2]; omega);have a5:=λw=>run_string_add_sum (P:=Tryz.prog) w ((⟨#[107,32]⟩:ByteArray) ++ A ++ ⟨#[32]⟩ ++ B ++ ⟨#[32]⟩) C (by simp only[ByteArray.size_append,z1,z2]; omega);have a6:=λw=>run_string_add_sum (P:=Tryz.prog) w ((⟨#[107,32]⟩:ByteArray) ++ A ++ ⟨#[32]⟩ ++ B ++ ⟨#[32]⟩ ++ C) ⟨#[32]⟩ (by simp only[ByteArray.size_append,z1,z2]; omega);have a7:=λw=>run_string_add_sum (P:=Tryz.prog) w ((⟨#[107,32]⟩:ByteArray) ++ A ++ ⟨#[32]⟩ ++ B ++ ⟨#[32]⟩ ++ C ++ ⟨#[32]⟩) D (by simp only[ByteArray.size_append,z1,z2]; omega);clear z1 z2 l1 l2 l3 l4 hA hB hC hD sA sB sC;go_enter Tryz.func120,Tryz.ntmps120
 go_wp2_with fail;refine(tG s a cap _ (TT.out.on (ay w _)) (HR.out.below (ay w _)) HK.out.g.fits (by have:=HK.out.g.regs_len; omega)).mono ?_;rintro e1 w1 ⟨rfl,b1⟩;have W1:=Hx ((ay w _).trans (b1.mono (by simp)));rw[<-HD.out];clear b1;go_wp2_with fail;refine(dP n _ (TT.out.on W1.out) (by have:=HK.out.n0; omega) (by have:=HK.out.n1; omega)).mono ?_;rintro e1 w2 ⟨rfl,b2⟩;have W2:=Hx (W1.out.trans (b2.mono W1.out.size));rw[<-HA.out];clear b2;go_wp2_with fail;refine(dP e _ (TT.out.on W2.out) (by have:=HK.out.e0; omega) (by have:=HK.out.e1; omega)).mono ?_;rintro e1 w3 ⟨rfl,b3⟩;have W3:=Hx (W2.out.trans (b3.mono W2.out.size));rw[<-HB.out];clear b3;go_wp2_with fail;refine(dP (D.size:Int) _ (TT.out.on W3.out) (by omega) (by omega)).mono ?_;rintro e1 w4 ⟨rfl,b4⟩;have W4:=Hx (W3.out.trans (b4.mono W3.out.size));rw[HL.out,<-HC.out];clear b4;go_wp2;go_ret;exact⟨by rw[Ej,<-HA.out,<-HB.out,<-HC.out,<-HD.out]; rfl,W4.out⟩
def FB (d:Dk):Dk × Bool:=if d.steps=false then(d.flush,false) else(d.flush,true)
def FH (n p:Nat)(A:ByteArray)(d:Dk):Dk × Bool:=if d.steps=false then(d.write n (2*(p:Int)) A,false) else FB (d.write n (2*(p:Int)) A)
def FI (n p:Nat)(A:ByteArray)(d:Dk):Dk × Bool:=if d.steps=false then(d.flush,false) else FH n p A d.flush
def FK (n p:Nat)(A B:ByteArray)(d:Dk):Dk × Bool:=if d.steps=false then(d.write n (2*(p:Int)+1) B,false) else FI n p A (d.write n (2*(p:Int)+1) B)
def FM (n p:Nat)(A B:ByteArray)(d:Dk):Dk × Bool:=if d.steps=false then(d.flush,false) else FK n p A B d.flush
def kF (n p:Nat)(A B:ByteArray)(d:Dk):Dk × Bool:=if d.steps=false then(d.write n (2*(p:Int)) ⟨#[]⟩,false) else FM n p A B (d.write n (2*(p:Int)) ⟨#[]⟩)
theorem Eh(n p:Nat)(A B:ByteArray)(d:Dk):gA n d p A B=kF n p A B d:=by
 unfold gA kF FM FK FI FH FB
 have e1:((2*p:Nat):Int)=2*(p:Int):=by omega
 have e2:((2*p+1:Nat):Int)=2*(p:Int)+1:=by omega
 rw[e1,e2]
theorem Dk.writeF_of{n:Nat}{d:Dk}{p:Int}{s:ByteArray}(h0:0<=p)(hp:p<n)(hs:s.size<=64):d.writeF n p s=if d.steps then 0 else 10:=by unfold Dk.writeF;rw[if_neg (by omega)]
structure np (S:Nat->Prop) (w:World) (K D n:Nat) (a:Option Addr) (cap:Nat) (k:Kp):Prop where
 blk:w.heap[K]?=some (.cells #[.pointer (some ⟨D,0,none⟩),.int .i64 k.num,.int .i64 k.ep,.int .i64 k.s.gen,.slice a k.s.regs.length cap,.int .i64 k.s.typ,.int .i64 k.s.holder,.bool k.s.stays] 154 (0,0))
 dk:cX S w 152 197 D n k.d
 nk:¬ S K
 lt:∀b,S b->b<w.heap.size
 str:bj w k.s a
 ap:∀b o,a=some ⟨b,o,none⟩->k.s.regs≠[]->¬ S b/\b≠K
def i6(A0:Option Addr->Prop)(S:Nat->Prop)(w:World)(K D n:Nat)(r:Kp × Int)(e:Ending)(w':World):Prop :=
 e=.returned (bg r.2)/\∃S' a cap,np S' w' K D n a cap r.1/\(∀b,S' b->grow S w w' b)/\ac (λb=>S b\/b=K) w w'/\A0 a
structure LF (S0:Nat->Prop) (w:World) (K D n B:Nat) (a a':Option Addr) (cap cap':Nat) (k:Kp) (s:St) (S:Nat->Prop) (d:Dk) (wx:World):Prop where
 blk:wx.heap[K]?=some (.cells #[.pointer (some ⟨D,0,none⟩),.int .i64 k.num,.int .i64 k.ep,.int .i64 k.s.gen,.slice a k.s.regs.length cap,.int .i64 k.s.typ,.int .i64 k.s.holder,.bool k.s.stays] 154 (0,0))
 box:wx.heap[B]?=some (.cells #[.int .i64 s.gen,.slice a' s.regs.length cap',.int .i64 s.typ,.int .i64 s.holder,.bool s.stays] 34 (0,0))
 dk:cX S wx 152 197 D n d
 nk:¬ S K
 nb:¬ S B
 lt:∀b,S b->b<wx.heap.size
 sub:∀b,S b->grow S0 w wx b
 keep:ac S0 w wx
section
variable {S0 S:Nat->Prop} {w wx w':World} {K D n B:Nat} {a a':Option Addr} {cap cap':Nat} {k:Kp} {s:St} {d d':Dk}
theorem LF.next(f:LF S0 w K D n B a a' cap cap' k s S d wx)(h:cX (grow S wx w') w' 152 197 D n d')(kp:ac S wx w'):LF S0 w K D n B a a' cap cap' k s (grow S wx w') d' w':=by
 have hK:=(Gl f.blk)
 have hB:=(Gl f.box)
 refine⟨(kp.block K f.nk hK).trans f.blk,(kp.block B f.nb hB).trans f.box,h,λe=>?_,λe=>?_,λb e=>?_,λb e=>?_,?_⟩
 .rcases e with e | e
  .exact f.nk e
  .omega
 .rcases e with e | e
  .exact f.nb e
  .omega
 .rcases e with e | e
  .exact Nat.lt_of_lt_of_le (f.lt b e) kp.size
  .exact e.2
 .rcases e with e | e
  .rcases f.sub b e with e | e
   .exact .inl e
   .exact .inr ⟨e.1,Nat.lt_of_lt_of_le e.2 kp.size⟩
  .exact .inr ⟨Nat.le_trans f.keep.size e.1,e.2⟩
 .refine⟨kp.os.trans f.keep.os,kp.tape.trans f.keep.tape,kp.output.trans f.keep.output,Nat.le_trans f.keep.size kp.size,λb hb lB=>?_⟩;refine(kp.block b (λe=>?_) (Nat.lt_of_lt_of_le lB f.keep.size)).trans (f.keep.block b hb lB)
  rcases f.sub b e with e | e
  .exact hb e
  .omega
theorem LF.same(f:LF S0 w K D n B a a' cap cap' k s S d wx)(h:cX S w' 152 197 D n d')(kp:ac S wx w'):LF S0 w K D n B a a' cap cap' k s (grow S wx w') d' w' :=
 f.next (h.mono (λ_ hk=>.inl hk)) kp
theorem LF.over(f:LF S0 w K D n B a a' cap cap' k s S d wx)(b:Below wx.heap.size wx w'):LF S0 w K D n B a a' cap cap' k s (grow S wx w') d w':=f.same (f.dk.below b) (ac.of_below b)
end
theorem bj.keeps{S:Nat->Prop}{w w':World}{s:St}{a:Option Addr}(h:bj w s a)(k:ac S w w')(ap:∀b o,a=some ⟨b,o,none⟩->s.regs≠[]->¬ S b):bj w' s a:=by refine⟨h.len,λi hi=>?_⟩;obtain⟨b,o,rfl,hb,c1,c2⟩:=h.rep i hi;have hn:=ap b o rfl (λe=>by rw[e]at hi; simp at hi);exact⟨b,o,rfl,Nat.lt_of_lt_of_le hb k.size,(k.cell hn hb).trans c1,(k.cell hn hb).trans c2⟩
theorem bj.blt{w:World}{s:St}{b o:Nat}(h:bj w s (some ⟨b,o,none⟩))(hn:s.regs≠[]):b<w.heap.size:=by
 obtain⟨b',o',e,hb,-⟩:=h.rep 0 (List.length_pos_iff.2 hn)
 obtain⟨rfl,-⟩:b=b'/\o=o':=by simpa using e
 exact hb
theorem Ei{A0:Option Addr->Prop}{S:Nat->Prop}{w w':World}{K D n:Nat}{r:Kp × Int}{e:Ending}(h:i6 A0 S w K D n r e w'):i6 A0 S w K D n r e w'.drew:=by obtain⟨he,S',a,cap,hk,hs,kk,ha⟩:=h;exact⟨he,S',a,cap,⟨hk.blk,hk.dk.keeps (R:=λ_=>False) (ac.refl _ _).drew (λ_ _ h=>h),hk.nk,hk.lt,⟨hk.str.len,hk.str.rep⟩,hk.ap⟩,hs,kk.drew,ha⟩
theorem Gw(l:Bs):(aQ l).extract (min ((aQ l).size:Int) 64).toNat (aQ l).size=aQ (l.drop 64):=by
 apply ByteArray.ext;rw[ByteArray.data_extract,bp];apply Array.toList_inj.1;simp only[aQ,Array.toList_extract,List.extract_eq_take_drop];by_cases h:l.length<=64
 .rw[List.drop_of_length_le (l:=l) h]
  have:(min (l.length:Int) 64).toNat=l.length:=by omega
  rw[this]; simp
 .have:(min (l.length:Int) 64).toNat=64:=by omega
  rw[this,List.take_of_length_le (by simp)]
theorem Gx(l:Bs):(aQ l).extract 0 (min ((aQ l).size:Int) 64).toNat=aQ (l.take 64):=by
 apply ByteArray.ext;rw[ByteArray.data_extract,bp];apply Array.toList_inj.1;simp only[aQ,Array.toList_extract,List.extract_eq_take_drop,List.drop_zero,Nat.sub_zero];by_cases h:l.length<=64
 .have:(min (l.length:Int) 64).toNat=l.length:=by omega
  rw[this,List.take_of_length_le h,List.take_of_length_le (Nat.le_refl _)]
 .have:(min (l.length:Int) 64).toNat=64:=by omega
  rw[this]
section
variable {S0 S:Nat->Prop} {w wx:World} {K D n B:Nat} {a a':Option Addr} {cap cap':Nat} {k:Kp} {s:St} {d:Dk}
theorem yS(f:LF S0 w K D n B a a' cap cap' k s S d wx) : (wx.cell? ⟨K,1,none⟩=some (.int .i64 k.num)/\wx.cell? ⟨K,2,none⟩=some (.int .i64 k.ep)/\wx.cell? ⟨K,3,none⟩=some (.int .i64 k.s.gen)/\wx.cell? ⟨K,4,none⟩=some (.slice a k.s.regs.length cap)/\wx.cell? ⟨K,5,none⟩=some (.int .i64 k.s.typ)/\wx.cell? ⟨K,6,none⟩=some (.int .i64 k.s.holder)/\wx.cell? ⟨K,7,none⟩=some (.bool k.s.stays)) /\ wx.frozen? ⟨K,1,none⟩=false/\wx.frozen? ⟨K,2,none⟩=false/\wx.frozen? ⟨K,3,none⟩=false/\wx.frozen? ⟨K,4,none⟩=false/\wx.frozen? ⟨K,5,none⟩=false/\wx.frozen? ⟨K,6,none⟩=false/\wx.frozen? ⟨K,7,none⟩=false:=by
 have h1:=f.blk;simp[World.cell?,World.frozen?,h1]
theorem jL(f:LF S0 w K D n B a a' cap cap' k s S d wx)(h:np S0 w K D n a cap k):i6 (λq=>(q=a/\k.s=k.s)\/q=a') S0 w K D n ({ k with d:=d },10) (.returned (bg 10)) wx:=by
 refine⟨rfl,S,a,cap,⟨f.blk,f.dk,f.nk,f.lt,h.str.keeps f.keep (λb o e hn=>(h.ap b o e hn).1),λb o e hn=>⟨λhS=>?_,(h.ap b o e hn).2⟩⟩,f.sub,f.keep.mono (λ_ e=>.inl e),.inl ⟨rfl,rfl⟩⟩;subst e;have hb:=h.str.blt hn
 rcases f.sub b hS with e | e
 .exact(h.ap b o rfl hn).1 e
 .omega
def jd(wx:World)(K:Nat)(v1 v2 v3 v4 v5 v6 v7:Value):World:=((((((wx.setCell ⟨K,1,none⟩ v1).setCell ⟨K,2,none⟩ v2).setCell ⟨K,3,none⟩ v3).setCell ⟨K,4,none⟩ v4).setCell ⟨K,5,none⟩ v5).setCell ⟨K,6,none⟩ v6).setCell ⟨K,7,none⟩ v7
theorem qB{wx:World}{K:Nat}{x0 x1 x2 x3 x4 x5 x6 x7:Value}{Ty:TypeId}(h:wx.heap[K]?=some (.cells #[x0,x1,x2,x3,x4,x5,x6,x7] Ty (0,0)))(v1 v2 v3 v4 v5 v6 v7:Value) : (jd wx K v1 v2 v3 v4 v5 v6 v7).heap[K]?=some (.cells #[x0,v1,v2,v3,v4,v5,v6,v7] Ty (0,0)) :=
 by
 have h1:=block_setCell (o:=1) h v1;have h2:=block_setCell (o:=2) h1 v2;have h3:=block_setCell (o:=3) h2 v3;have h4:=block_setCell (o:=4) h3 v4;have h5:=block_setCell (o:=5) h4 v5;have h6:=block_setCell (o:=6) h5 v6;have h7:=block_setCell (o:=7) h6 v7;unfold jd;simpa only [List.setIfInBounds_toArray,List.set_cons_succ,List.set_cons_zero] using h7
theorem dN{N:Nat}{a w:World}(h:ac (·=N) a w)(o:Nat)(u:Value):ac (·=N) a (w.setCell ⟨N,o,none⟩ u):=ac.setCell (S:=(·=N)) h rfl u
theorem ll(wx:World)(K:Nat)(v1 v2 v3 v4 v5 v6 v7:Value):ac (·=K) wx (jd wx K v1 v2 v3 v4 v5 v6 v7) :=
 dN (dN (dN (dN (dN (dN (dN (ac.refl _ _) 1 v1) 2 v2) 3 v3) 4 v4) 5 v5) 6 v6) 7 v7
theorem Ef(f:LF S0 w K D n B a a' cap cap' k s S d wx)(hr:bj w s a')(hx:∀b o,a'=some ⟨b,o,none⟩->s.regs≠[]->¬ S0 b/\b≠K)(ep:Int) : i6 (λq=>(q=a/\s=k.s)\/q=a') S0 w K D n (⟨d,k.num+1,ep,s⟩,0) (.returned (bg 0)) (jd wx K (.int .i64 (k.num+1)) (.int .i64 ep) (.int .i64 s.gen) (.slice a' s.regs.length cap') (.int .i64 s.typ) (.int .i64 s.holder) (.bool s.stays)):=by
 obtain⟨w',MJ⟩:=Nn (jd wx K (.int .i64 (k.num+1)) (.int .i64 ep) (.int .i64 s.gen) (.slice a' s.regs.length cap') (.int .i64 s.typ) (.int .i64 s.holder) (.bool s.stays));have kk:ac (·=K) wx w':=MJ▸ll _ _ _ _ _ _ _ _ _;have hb:=MJ▸qB f.blk (.int .i64 (k.num+1)) (.int .i64 ep) (.int .i64 s.gen) (.slice a' s.regs.length cap') (.int .i64 s.typ) (.int .i64 s.holder) (.bool s.stays);rw[<-MJ];have k2:ac (λb=>S0 b\/b=K) w w':=(f.keep.mono (λ_ e=>.inl e)).trans (kk.mono (λ_ e=>.inr e));have hs:w.heap.size<=w'.heap.size:=k2.size;have Ls:=f.keep.size;refine⟨rfl,S,a',cap',⟨hb,f.dk.keeps kk (λb e h=>f.nk (h▸e)),f.nk,λb e=>Nat.lt_of_lt_of_le (f.lt b e) kk.size,hr.keeps k2 (λb o e hn h=>?_),λb o e hn=>⟨λhS=>?_,(hx b o e hn).2⟩⟩,λb e=>?_,k2,.inr rfl⟩
 .rcases h with h | h
  .exact(hx b o e hn).1 h
  .exact(hx b o e hn).2 h
 .subst e;have hb:=hr.blt hn
  rcases f.sub b hS with e | e
  .exact(hx b o rfl hn).1 e
  .omega
 .rcases f.sub b e with e | e
  .exact .inl e
  .exact .inr ⟨e.1,Nat.lt_of_lt_of_le e.2 kk.size⟩
end
theorem dM{S0 S:Nat->Prop}{w wx:World}{K D n B:Nat}{a a':Option Addr}{cap cap':Nat}{k:Kp}{s:St}{d:Dk}(f:LF S0 w K D n B a a' cap cap' k s S d wx) : wx.cell? ⟨K,0,none⟩=some (.pointer (some ⟨D,0,none⟩))/\wx.cell? ⟨K,1,none⟩=some (.int .i64 k.num)/\wx.cell? ⟨B,0,none⟩=some (.int .i64 s.gen)/\wx.cell? ⟨B,1,none⟩=some (.slice a' s.regs.length cap')/\wx.cell? ⟨B,2,none⟩=some (.int .i64 s.typ)/\wx.cell? ⟨B,3,none⟩=some (.int .i64 s.holder)/\wx.cell? ⟨B,4,none⟩=some (.bool s.stays):=by
 have h1:=f.blk;have h2:=f.box;simp[World.cell?,h1,h2]
theorem xz(S:Nat->Prop)(w:World)(K D n:Nat)(a a':Option Addr)(cap cap':Nat)(k:Kp)(ep:Int)(s:St)(h:np S w K D n a cap k)(ok:k.d.ok n)(JW:k.d.wait.length<=900)(n6:6<=n)(h0:0<=k.num)(hk:l5 (k.num+1) ep s)(hr:bj w s a')(hx:∀b o,a'=some ⟨b,o,none⟩->s.regs≠[]->¬ S b/\b≠K)(t:Tabs w) : Calls Tryz.prog 79 #[.pointer (some ⟨K,0,none⟩),.int .i64 ep,dh s a' cap'] w λe w'=>i6 (λq=>(q=a/\(k.lay n ep s).1.s=k.s)\/q=a') S w K D n (k.lay n ep s) e w':=by
 have HH:=Hx h;have OK:=Hx ok;have HWL:=Hx JW;have HK:=Hx hk;have HR:=Hx hr;have HX:=Hx hx;have TT:=Hx t;have KLT:=Hx (Gl h.blk);clear h ok JW hr hx t;obtain⟨p,hp⟩:=Nn (iy (k.num+1));obtain⟨A,hA⟩:=Nn (kA (k.num+1) ep s);obtain⟨B,hB⟩:=Nn (kB (k.num+1) ep s);obtain⟨T,hT⟩:=Nn (aQ (fJ (k.num+1) ep s))
 have RES:=Hs (k.lay n ep s=(let r:=kF n p A B k.d; if r.2 then(⟨r.1,k.num+1,ep,s⟩,0) else({ k with d:=r.1 },10))) (by unfold Kp.lay; rw[Eh,hp,hA,hB])
 have p2:p<2:=hp▸vJ _
 have qp:Int.tmod (k.num+1) 2=(p:Int):=by rw[hp]; unfold iy; rw[Int.tmod_eq_emod_of_nonneg (by omega)]; omega
 have AS:=Hs (A.size<=64) (hA▸l5.kA_size);have BS:=Hs (B.size<=64) (hB▸hk.kB_size);have HT:=Hx hT;have hn1:=hk.n1;have TL:=Hs (T.size=(fJ (k.num+1) ep s).length/\T.size<=100) (by rw[hT,bp]; exact⟨rfl,hk.len⟩)
 have EXB:=Hs (T.extract (min (T.size:Int) 64).toNat T.size=B) (by rw[hB,hT]; exact Gw _)
 have EXA:=Hs (T.extract 0 (min (T.size:Int) 64).toNat=A) (by rw[hA,hT]; exact Gx _)
 have m0:(0:Int)<=min (T.size:Int) 64:=by omega
 have m1:min (T.size:Int) 64<=(T.size:Int):=by omega
 clear hp hA hB hT hk;have Ob:=HH.out.blk
 have hc:w.cell? ⟨K,0,none⟩=some (.pointer (some ⟨D,0,none⟩))/\w.cell? ⟨K,1,none⟩=some (.int .i64 k.num):=by simp[World.cell?,Ob]
 obtain⟨c0,c1⟩:=hc;have hK:=KLT.out;go_enter Tryz.func79,Tryz.ntmps79
 go_wp2_with fail;refine(yW (k.num+1) ep s a' cap' _ (TT.out.on (ay w _)) (HR.out.below (ay w _)) HK.out).mono ?_;rintro e w1 ⟨rfl,b1⟩;rw[<-HT.out]
 have F1:=Hs (LF S w K D n w.heap.size a a' cap cap' k s S k.d w1) (  ⟨(b1.block K (by simp; omega)).trans ((Below.heap_alloc _ _ _ hK).trans Ob),(b1.block w.heap.size (by simp)).trans (heap_alloc_new w _),HH.out.dk.below ((ay w _).trans (b1.mono (by simp))),HH.out.nk,λe=>by have:=HH.out.lt _ e; omega,
   λb e=>by have:=HH.out.lt b e; have:=((ay w _).trans (b1.mono (by simp))).size; omega,λb e=>.inl e,ac.of_below ((ay w _).trans (b1.mono (by simp)))⟩)
 clear b1 Ob c0 c1;obtain⟨c0,c1,z0,z1,z2,z3,z4⟩:=dM F1.out;go_wp2_with fail;refine(iU _ _ D n k.d (2*(p:Int)) ⟨#[]⟩ F1.out.dk OK.out (by have:=HWL.out; omega)).mono ?_;rintro e w2 ⟨rfl,hd,kp⟩;rw[Dk.writeF_of (by omega) (by omega) (by decide)];have F2:=Hx (F1.out.next hd kp);clear hd kp c0 c1 z0 z1 z2 z3 z4;by_cases st0:k.d.steps=false
 .have LF:=Hs (kF n p A B k.d=(k.d.write n (2*(p:Int)) ⟨#[]⟩,false)) (if_pos st0);rw[st0];simp only[Bool.false_eq_true,if_false];rw[aK (show(10:Int)≠0 by decide)];clear st0;go_wp2;go_ret;have h:=jL F2.out HH.out;rw[RES.out,LF.out];exact h
 have LL1:=Hs (kF n p A B k.d=FM n p A B (k.d.write n (2*(p:Int)) ⟨#[]⟩)) (if_neg st0)
 have ST0:k.d.steps=true:=by simpa using st0
 rw[ST0];simp only[if_true];rw[aH];have OK1:=Hx (Dk.write_ok OK.out (2*(p:Int)) ⟨#[]⟩);obtain⟨d1,JP⟩:=Nn (k.d.write n (2*(p:Int)) ⟨#[]⟩);rw[<-JP]at F2 LL1 OK1;clear JP st0 ST0;obtain⟨c0,c1,z0,z1,z2,z3,z4⟩:=dM F2.out;go_wp2_with fail;refine(iW _ _ D n d1 F2.out.dk OK1.out).mono ?_;rintro e w3 ⟨rfl,hd,kp⟩;have F3:=Hx (F2.out.same hd kp);clear hd kp c0 c1 z0 z1 z2 z3 z4;by_cases st1:d1.steps=false
 .have LF:=Hs (kF n p A B k.d=(d1.flush,false)) (LL1.out.trans (if_pos st1));rw[st1];simp only[Bool.false_eq_true,if_false];rw[aK (show(10:Int)≠0 by decide)];clear st1;go_wp2;go_ret;have h:=jL F3.out HH.out;rw[RES.out,LF.out];exact h
 have LL2:=Hs (kF n p A B k.d=FK n p A B (d1.flush)) (LL1.out.trans (if_neg st1))
 have ST1:d1.steps=true:=by simpa using st1
 have WN:(d1.flush).wait.length<=900:=by rw[Dk.flush_steps ST1]; simp
 rw[ST1];simp only[if_true];rw[aH];have OK2:=Hx (Dk.flush_ok' OK1.out);obtain⟨d2,JP⟩:=Nn d1.flush;rw[<-JP]at F3 LL2 OK2 WN;clear JP st1 ST1;have HW2:=Hx WN;clear WN;obtain⟨c0,c1,z0,z1,z2,z3,z4⟩:=dM F3.out;go_upto_region 8 with fail;have FD:=Hx (F3.out.over (Below.refl _ _).drew);have QD:=Hx (dM FD.out).1;have DW:=Hx (iU _ _ D n d2 (2*(p:Int)+1) (T.extract (min (T.size:Int) 64).toNat T.size) FD.out.dk OK2.out (by have:=HW2.out; omega));have q1:IntKind.i64.wrap (2*(p:Int))=2*(p:Int):=IntWalk.i64_in _ (by omega);have q2:IntKind.i64.wrap (2*(p:Int)+1)=2*(p:Int)+1:=IntWalk.i64_in _ (by omega)
 go_region_held3 (λw'=>w'.cell? ⟨K,0,none⟩=some (.pointer (some ⟨D,0,none⟩)))
  (first|assumption | exact QD.out)
  (first|((with_reducible refine DW.out.mono ?_); rintro e w4 ⟨rfl,hd,kp⟩; have c9:=(dM (FD.out.next hd kp)).1))
 have F4:=Hx (FD.out.next hd kp);rw[EXB.out,Dk.writeF_of (by omega) (by omega) BS.out];rw[EXB.out]at F4;clear c9 DW QD FD q1 q2;clear hd kp c0 c1 z0 z1 z2 z3 z4;by_cases st2:d2.steps=false
 .have LF:=Hs (kF n p A B k.d=(d2.write n (2*(p:Int)+1) B,false)) (LL2.out.trans (if_pos st2));rw[st2];simp only[Bool.false_eq_true,if_false];rw[aK (show(10:Int)≠0 by decide)];clear st2;go_wp2;go_ret;have h:=jL F4.out HH.out;rw[RES.out,LF.out];exact h
 have LL3:=Hs (kF n p A B k.d=FI n p A (d2.write n (2*(p:Int)+1) B)) (LL2.out.trans (if_neg st2))
 have ST2:d2.steps=true:=by simpa using st2
 rw[ST2];simp only[if_true];rw[aH];have OK3:=Hx (Dk.write_ok OK2.out (2*(p:Int)+1) B);obtain⟨d3,JP⟩:=Nn (d2.write n (2*(p:Int)+1) B);rw[<-JP]at F4 LL3 OK3;clear JP st2 ST2;obtain⟨c0,c1,z0,z1,z2,z3,z4⟩:=dM F4.out;go_wp2_with fail;refine(iW _ _ D n d3 F4.out.dk OK3.out).mono ?_;rintro e w5 ⟨rfl,hd,kp⟩;have F5:=Hx (F4.out.same hd kp);clear hd kp c0 c1 z0 z1 z2 z3 z4;by_cases st3:d3.steps=false
 .have LF:=Hs (kF n p A B k.d=(d3.flush,false)) (LL3.out.trans (if_pos st3));rw[st3];simp only[Bool.false_eq_true,if_false];rw[aK (show(10:Int)≠0 by decide)];clear st3;go_wp2;go_ret;have h:=jL F5.out HH.out;rw[RES.out,LF.out];exact h
 have LL4:=Hs (kF n p A B k.d=FH n p A (d3.flush)) (LL3.out.trans (if_neg st3))
 have ST3:d3.steps=true:=by simpa using st3
 have WN:(d3.flush).wait.length<=900:=by rw[Dk.flush_steps ST3]; simp
 rw[ST3];simp only[if_true];rw[aH];have OK4:=Hx (Dk.flush_ok' OK3.out);obtain⟨d4,JP⟩:=Nn d3.flush;rw[<-JP]at F5 LL4 OK4 WN;clear JP st3 ST3;have JO:=Hx WN;clear WN;obtain⟨c0,c1,z0,z1,z2,z3,z4⟩:=dM F5.out;go_upto_region 12 with fail;have FD:=Hx (F5.out.over (Below.refl _ _).drew);have QD:=Hx (dM FD.out).1;have DW:=Hx (iU _ _ D n d4 (2*(p:Int)) (T.extract 0 (min (T.size:Int) 64).toNat) FD.out.dk OK4.out (by have:=JO.out; omega));have q1:IntKind.i64.wrap (2*(p:Int))=2*(p:Int):=IntWalk.i64_in _ (by omega);have q2:IntKind.i64.wrap (2*(p:Int)+1)=2*(p:Int)+1:=IntWalk.i64_in _ (by omega)
 go_region_held3 (λw'=>w'.cell? ⟨K,0,none⟩=some (.pointer (some ⟨D,0,none⟩)))
  (first|assumption | exact QD.out)
  (first|((with_reducible refine DW.out.mono ?_); rintro e w6 ⟨rfl,hd,kp⟩; have c9:=(dM (FD.out.next hd kp)).1))
 have F6:=Hx (FD.out.next hd kp);rw[EXA.out,Dk.writeF_of (by omega) (by omega) AS.out];rw[EXA.out]at F6;clear c9 DW QD FD q1 q2;clear hd kp c0 c1 z0 z1 z2 z3 z4;by_cases st4:d4.steps=false
 .have LF:=Hs (kF n p A B k.d=(d4.write n (2*(p:Int)) A,false)) (LL4.out.trans (if_pos st4));rw[st4];simp only[Bool.false_eq_true,if_false];rw[aK (show(10:Int)≠0 by decide)];clear st4;go_wp2;go_ret;have h:=jL F6.out HH.out;rw[RES.out,LF.out];exact h
 have LL5:=Hs (kF n p A B k.d=FB (d4.write n (2*(p:Int)) A)) (LL4.out.trans (if_neg st4))
 have ST4:d4.steps=true:=by simpa using st4
 rw[ST4];simp only[if_true];rw[aH];have OK5:=Hx (Dk.write_ok OK4.out (2*(p:Int)) A);obtain⟨d5,JP⟩:=Nn (d4.write n (2*(p:Int)) A);rw[<-JP]at F6 LL5 OK5;clear JP st4 ST4;obtain⟨c0,c1,z0,z1,z2,z3,z4⟩:=dM F6.out;go_wp2_with fail;refine(iW _ _ D n d5 F6.out.dk OK5.out).mono ?_;rintro e w7 ⟨rfl,hd,kp⟩;have F7:=Hx (F6.out.same hd kp);clear hd kp c0 c1 z0 z1 z2 z3 z4;by_cases st5:d5.steps=false
 .have LF:=Hs (kF n p A B k.d=(d5.flush,false)) (LL5.out.trans (if_pos st5));rw[st5];simp only[Bool.false_eq_true,if_false];rw[aK (show(10:Int)≠0 by decide)];clear st5;go_wp2;go_ret;have h:=jL F7.out HH.out;rw[RES.out,LF.out];exact h
 have LL6:=Hs (kF n p A B k.d=(d5.flush,true)) (LL5.out.trans (if_neg st5))
 have ST5:d5.steps=true:=by simpa using st5
 have WN:(d5.flush).wait.length<=900:=by rw[Dk.flush_steps ST5]; simp
 rw[ST5];simp only[if_true];rw[aH];have OK6:=Hx (Dk.flush_ok' OK5.out);obtain⟨d6,JP⟩:=Nn d5.flush;rw[<-JP]at F7 LL6 OK6 WN;clear JP st5 ST5;have HW6:=Hx WN;clear WN;obtain⟨c0,c1,z0,z1,z2,z3,z4⟩:=dM F7.out;go_upto_region 16 with fail;obtain⟨⟨y1,y2,y3,y4,y5,y6,y7⟩,f1,f2,f3,f4,f5,f6,f7⟩:=yS F7.out
 have Ik:w.heap.size≠K:=by omega
 have KEEP:=Hs (∀w',ac (·=K) w7 w'->ac (·=K) w7 w'/\w'.cell? ⟨w.heap.size,0,none⟩=some (.int .i64 s.gen)/\w'.cell? ⟨w.heap.size,1,none⟩=some (.slice a' s.regs.length cap')/\w'.cell? ⟨w.heap.size,2,none⟩=some (.int .i64 s.typ)/\w'.cell? ⟨w.heap.size,3,none⟩=some (.int .i64 s.holder)/\w'.cell? ⟨w.heap.size,4,none⟩=some (.bool s.stays)) (λw' kp=>by
  have lB:w.heap.size<w7.heap.size:=(Gl F7.out.box)
  have e:=λo=>kp.cell (b:=w.heap.size) (o:=o) Ik lB
  exact⟨kp,(e 0).trans z0,(e 1).trans z1,(e 2).trans z2,(e 3).trans z3,(e 4).trans z4⟩)
 go_region_held3 (λw'=>ac (·=K) w7 w'/\w'.cell? ⟨w.heap.size,0,none⟩=some (.int .i64 s.gen)/\w'.cell? ⟨w.heap.size,1,none⟩=some (.slice a' s.regs.length cap')/\w'.cell? ⟨w.heap.size,2,none⟩=some (.int .i64 s.typ)/\w'.cell? ⟨w.heap.size,3,none⟩=some (.int .i64 s.holder)/\w'.cell? ⟨w.heap.size,4,none⟩=some (.bool s.stays))
  (first|(refine KEEP.out _ ?_; first | (with_reducible exact(ac.refl _ _).drew)|(with_reducible exact(dN (ac.refl _ _) _ _).drew)|(with_reducible exact(dN (dN (ac.refl _ _) _ _) _ _).drew)|(with_reducible exact(dN (dN (dN (dN (dN (dN (dN (ac.refl _ _) _ _) _ _) _ _) _ _) _ _) _ _) _ _).drew)))
  (fail)
 go_wp2;go_ret;have h:=Ei (Ef F7.out HR.out HX.out ep);rw[RES.out,LL6.out];exact h
theorem np.below{S:Nat->Prop}{w w':World}{K D n:Nat}{a:Option Addr}{cap:Nat}{k:Kp}(h:np S w K D n a cap k)(b:Below w.heap.size w w'):np S w' K D n a cap k :=
 ⟨(b.block K (Gl h.blk)).trans h.blk,h.dk.below b,h.nk,λq e=>Nat.lt_of_lt_of_le (h.lt q e) b.size,h.str.below b,h.ap⟩
theorem Br{A0 A1:Option Addr->Prop}{S:Nat->Prop}{w w1 w':World}{K D n:Nat}{r:Kp × Int}{e:Ending}(b:Below w.heap.size w w1)(h:i6 A0 S w1 K D n r e w')(hA:∀q,A0 q->A1 q):i6 A1 S w K D n r e w':=by
 obtain⟨he,S',a,cap,hk,hs,kk,ha⟩:=h;refine⟨he,S',a,cap,hk,λq e=>?_,(ac.of_below b).trans kk,hA _ ha⟩
 rcases hs q e with e | e
 .exact .inl e
 .exact .inr ⟨Nat.le_trans b.size e.1,e.2⟩
theorem sg{S:Nat->Prop}{w w':World}{K D n:Nat}{a:Option Addr}{cap:Nat}{k:Kp}(h:np S w K D n a cap k)(b:Below w.heap.size w w')(f:Int):i6 (λq=>(q=a/\k.s=k.s)\/∀b o,q=some ⟨b,o,none⟩->w.heap.size<=b) S w K D n (k,f) (.returned (bg f)) w' :=
 ⟨rfl,S,a,cap,h.below b,λ_ e=>.inl e,ac.of_below b,.inl ⟨rfl,rfl⟩⟩
theorem keep_any(S:Nat->Prop)(w:World)(K D n:Nat)(a a':Option Addr)(cap cap':Nat)(k:Kp)(ep:Int)(s:St)(h:np S w K D n a cap k)(ok:k.d.ok n)(JW:k.d.wait.length<=900)(n6:6<=n)(h0:0<=k.num)(h1:k.num<1000000000000000)(hr:bj w s a')(t:Tabs w) : Calls Tryz.prog 88 #[.pointer (some ⟨K,0,none⟩),.int .i64 ep,dh s a' cap'] w λe w'=>i6 (λq=>(q=a/\(k.keep n ep s).1.s=k.s)\/∀b o,q=some ⟨b,o,none⟩->w.heap.size<=b) S w K D n (k.keep n ep s) e w':=by
 have HH:=Hx h;have HR:=Hx hr;have TT:=Hx t;clear h hr t;have KE:=Hs (k.keep n ep s=if ep<1\/1000000<ep then(k,1) else if ar s≠0 then(k,ar s) else k.lay n ep s) rfl;by_cases e1:ep<1\/1000000<ep
 .have KX:=Hx (KE.out.trans (if_pos e1))
  rcases e1 with e1 | e1
  .go_enter Tryz.func88,Tryz.ntmps88
   go_wp2;go_ret;rw[KX.out];exact sg HH.out (ay w _) 1
  .have e2:¬ ep<1:=by omega
   go_enter Tryz.func88,Tryz.ntmps88
   go_wp2;go_ret;rw[KX.out];exact sg HH.out (ay w _) 1
 have KE2:=Hx (KE.out.trans (if_neg e1))
 have e2:¬ ep<1:=by omega
 have e3:¬ 1000000<ep:=by omega
 have EP:=Hs (1<=ep/\ep<=1000000) (by omega);clear e1 KE;go_enter Tryz.func88,Tryz.ntmps88
 go_wp2_with fail;refine(check_any s a' cap' _ (HR.out.below (ay w _))).mono ?_;rintro e w1 ⟨rfl,b1⟩;have W1:=Hx ((ay w _).trans (b1.mono (by simp)));have H1:=Hx ((b1.block w.heap.size (by simp)).trans (heap_alloc_new w _));clear b1;by_cases hf:ar s=0
 .have KX:=Hx (KE2.out.trans (if_neg (λh=>h hf)));rw[hf,aH];have HG:=Hx ((fq _).1 hf);clear hf;obtain⟨v,w2,II,ec,b2⟩:=iZ s.regs a' cap' 32 w1 (by have:=HG.out.regs_len; omega) ((HR.out.below W1.out).rep);obtain⟨a2,cap2,rfl,MR,-⟩:=bX.shape ec
  have hblt:w.heap.size<w1.heap.size:=(Gl H1.out)
  have LO:=Hs (∀q o,a2=some ⟨q,o,none⟩->w1.heap.size<=q) (λq o e=>bX.blk ec q (by rw[e]; rfl));have W2:=Hx (W1.out.trans (b2.mono W1.out.size));have H2:=Hx ((b2.block w.heap.size hblt).trans H1.out);have S2:=Hs (bj w2 s a2) (⟨by have:=HG.out.regs_len; unfold maxLen; omega,MR⟩);have W3:=Hx (W2.out.setCell (p:=⟨w.heap.size,1,none⟩) (Nat.le_refl _) (.slice a2 s.regs.length cap2));have S3:=Hx (S2.out.keeps (dN (ac.refl (·=w.heap.size) w2) 1 (.slice a2 s.regs.length cap2)) (λb o e _=>by have:=LO.out b o e; omega));have KR3:=Hx (HH.out.below W3.out)
  have Kr:=Hs (∀b o,a2=some ⟨b,o,none⟩->s.regs≠[]->¬ S b/\b≠K) (λb o e _=>by
   have:=LO.out b o e
   have hK:=(Gl HH.out.blk)
   exact⟨λh=>by have:=HH.out.lt b h; omega,by omega⟩)
  have LAY:=Hx (xz S _ K D n a a2 cap cap2 k ep s KR3.out ok JW n6 h0 ⟨by omega,by omega,EP.out.1,EP.out.2,HG.out⟩ S3.out Kr.out (TT.out.on W3.out));have hc:=H1.out;obtain⟨⟨c0,c1,c2,c3,c4⟩,f0,f1,f2,f3,f4⟩:=cells5 H1.out;obtain⟨⟨d0,d1,d2,d3,d4⟩,g0,g1,g2,g3,g4⟩:=cells5 H2.out;clear hc MR ec b2;go_wp2_with (first|(at_builtin; refine Lib.wpList_append_run _ rfl _ _ 32 32 rfl _ _ rfl rfl _ _ II ?_)|((with_reducible refine LAY.out.mono ?_); rintro e w4 ⟨rfl,h4⟩));go_ret;rw[KX.out]
  exact Br W3.out ⟨rfl,h4⟩ (λq e=>by
   rcases e with e | e
   .exact .inl e
   .exact .inr (λb o h=>by have:=LO.out b o (e▸h); have:=W1.out.size; omega))
 .have KX:=Hx (KE2.out.trans (if_pos hf));rw[aK hf];have HF:=Hx (aK hf);obtain⟨f,hff⟩:=Nn (ar s);rw[<-hff]at KX HF ⊢;clear hf hff;go_wp2;go_ret;rw[KX.out,<-HF.out];exact sg HH.out W1.out f
theorem vW(S:Nat->Prop)(w:World)(K D n:Nat)(a:Option Addr)(cap:Nat)(k:Kp)(h:np S w K D n a cap k) : Calls Tryz.prog 66 #[.pointer (some ⟨K,0,none⟩)] w λe w'=>e=.returned (.int .i64 k.ep)/\w'=w:=by
 have hb:=h.blk
 have c2:w.cell? ⟨K,2,none⟩=some (.int .i64 k.ep):=by simp[World.cell?,hb]
 clear hb h;go_enter Tryz.func66,Tryz.ntmps66
 go_wp2;go_ret;exact⟨rfl,rfl⟩
theorem ky{P:Program}{fn:Func}{p:Tmp}{ty:TypeId}(h:fn.results=#[.cell p ty])(tmps:Array Value)(w:World)(g:Nat)(t:TypeId)(cs:Array Value)(d:TypeDesc)
  (hp:tmps.getD p undef=.pointer (some ⟨g,0,none⟩)) (hg:w.heap[g]?=some (.cells cs t (0,0)))
  (hu:P.underlying ty=some d) (hd:(match d with | .struct _ | .array _ _=>true | _=>false)=true) (hi:(P.info? ty).map (·.size)=some cs.size) :
  (results fn tmps).run P w=.ok (.agg cs) w:=by
 have JJ:tmps[p]?.getD undef=.pointer (some ⟨g,0,none⟩):=by simpa using hp
 simp[results,h,JJ,asAddr,run_loadVar_row w g t ty cs (0,0) d hg hu hd hi]
theorem vV(S:Nat->Prop)(w:World)(K D n:Nat)(a:Option Addr)(cap:Nat)(k:Kp)(h:np S w K D n a cap k)(hl:k.s.regs.length<=1000) : Calls Tryz.prog 45 #[.pointer (some ⟨K,0,none⟩)] w λe w'=>∃a2 cap2,e=.returned (dh k.s a2 cap2)/\bj w' k.s a2/\Below w.heap.size w w'/\∀b o,a2=some ⟨b,o,none⟩->w.heap.size<=b:=by
 have HH:=Hx h;have hb:=h.blk
 have hK:=(Gl h.blk)
 clear h
 obtain⟨y3,y4,y5,y6,y7⟩:w.cell? ⟨K,3,none⟩=some (.int .i64 k.s.gen)/\w.cell? ⟨K,4,none⟩=some (.slice a k.s.regs.length cap)/\w.cell? ⟨K,5,none⟩=some (.int .i64 k.s.typ)/\w.cell? ⟨K,6,none⟩=some (.int .i64 k.s.holder)/\w.cell? ⟨K,7,none⟩=some (.bool k.s.stays):=by simp[World.cell?,hb]
 clear hb;go_enter Tryz.func45,Tryz.ntmps45
 go_upto_region 2 with fail;obtain⟨w1,pX⟩:=Nm ((w.alloc (.cells #[.int .i64 0,.slice none 0 0,.int .i64 0,.int .i64 0,.bool false] 34)).alloc (.cells #[.int .i64 k.s.gen,.slice a k.s.regs.length cap,.int .i64 k.s.typ,.int .i64 k.s.holder,.bool k.s.stays] 34));rw[pX];have B1:=Hs (Below w.heap.size w w1) (pX▸(ay w _).trans ((ay _ _).mono (by simp)))
 have Ii:w1.heap.size=w.heap.size+2:=by rw[<-pX]; simp
 have R1:=Hs (w1.heap[w.heap.size]?=some (.cells #[.int .i64 0,.slice none 0 0,.int .i64 0,.int .i64 0,.bool false] 34 (0,0))) (pX▸heap_alloc2_old w _ _);have N1:=Hs (w1.heap[w.heap.size+1]?=some (.cells #[.int .i64 k.s.gen,.slice a k.s.regs.length cap,.int .i64 k.s.typ,.int .i64 k.s.holder,.bool k.s.stays] 34 (0,0))) (pX▸heap_alloc2_new w _ _);clear pX;obtain⟨v,w2,II,ec,b2⟩:=iZ k.s.regs a cap 32 w1 hl ((HH.out.str.below B1.out).rep);obtain⟨a2,cap2,rfl,MR,-⟩:=bX.shape ec;have LO:=Hs (∀q o,a2=some ⟨q,o,none⟩->w1.heap.size<=q) (λq o e=>bX.blk ec q (by rw[e]; rfl));have B2:=Hx (B1.out.trans (b2.mono B1.out.size));have R2:=Hx ((b2.block w.heap.size (by omega)).trans R1.out);have N2:=Hx ((b2.block (w.heap.size+1) (by omega)).trans N1.out);have S2:=Hs (bj w2 k.s a2) (⟨by unfold maxLen; omega,MR⟩);obtain⟨⟨c0,c1,c2,c3,c4⟩,f0,f1,f2,f3,f4⟩:=cells5 N1.out;obtain⟨⟨d0,d1,d2,d3,d4⟩,g0,g1,g2,g3,g4⟩:=cells5 N2.out;obtain⟨⟨r0,r1,r2,r3,r4⟩,t0,t1,t2,t3,t4⟩:=cells5 R2.out;clear y3 y4 y5 y6 y7 MR ec b2;go_wp2_with (at_builtin; refine Lib.wpList_append_run _ rfl _ _ 32 32 rfl _ _ rfl rfl _ _ II ?_);have N3:=one_setCell (o:=1) N2.out (.slice a2 k.s.regs.length cap2);have R3:=(Below.heap_setCell w2 ⟨w.heap.size+1,1,none⟩ (.slice a2 k.s.regs.length cap2) w.heap.size (by show w.heap.size≠w.heap.size+1; omega)).trans R2.out;refine bodyPost_ret (v:=dh k.s a2 cap2) (ky Tryz.results45 _ _ w.heap.size 34 #[.int .i64 k.s.gen,.slice a2 k.s.regs.length cap2,.int .i64 k.s.typ,.int .i64 k.s.holder,.bool k.s.stays] _ rfl (dF R3 _ _ _ _ _) br.1 rfl br.2) rfl ?_
 exact⟨a2,cap2,rfl,(S2.out.keeps (dN (ac.refl (·=w.heap.size+1) w2) 1 (.slice a2 k.s.regs.length cap2)) (λb o e _=>by have:=LO.out b o e; omega)).five (λb o e=>by have:=LO.out b o e; omega) _ _ _ _ _,
  bW (B2.out.setCell (p:=⟨w.heap.size+1,1,none⟩) (by show w.heap.size<=w.heap.size+1; omega) _) (Nat.le_refl _) _ _ _ _ _,λb o e=>by have:=LO.out b o e; omega⟩
