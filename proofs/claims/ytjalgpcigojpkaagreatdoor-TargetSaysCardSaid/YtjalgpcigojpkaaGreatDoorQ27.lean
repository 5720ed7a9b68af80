import Derived.Test.YtjalgpcigojpkaaGreatDoorQ26
set_option maxRecDepth 99999
set_option maxHeartbeats 99999999
namespace Go.Proofs.YtjalgpcigojpkaaGreatDoor
section
open Go.RowKit
def Live (d:Dk):Prop:=d.fuse=-1/\d.down=false
theorem qM{d:Dk}(h:Live d):d.step=d:=by obtain⟨kept,now,wait,f,b⟩:=d;obtain⟨rfl,rfl⟩:f=-1/\b=false:=h;rfl
theorem gu{d:Dk}(h:Live d):d.steps=true:=Dk.steps_of h.1 h.2
theorem dx{n p:Nat}{d:Dk}{s:ByteArray}(h:Live d)(hp:p<n)(hs:s.size<=64):d.write n (p:Int) s=⟨d.kept,d.now.set p (bJ s),d.wait ++ [(p,bJ s)],-1,false⟩:=by rw[Dk.write_steps hp hs (gu h),qM h];dsimp only;rw[h.1,h.2]
theorem iS{d:Dk}(h:Live d):d.flush=⟨d.now,d.now,[],-1,false⟩:=by rw[Dk.flush_steps (gu h),qM h];dsimp only;rw[h.1,h.2]
theorem cI(a b:List ByteArray)(c:List (Nat × ByteArray)):Live ⟨a,b,c,-1,false⟩:=⟨rfl,rfl⟩
theorem Bh{n a:Nat}{d:Dk}{A B:ByteArray}(h:Live d)(ha:2*a+1<n)(hA:A.size<=64)(hB:B.size<=64) : gA n d a A B=(⟨((d.now.set (2*a) fK).set (2*a+1) (bJ B)).set (2*a) (bJ A),((d.now.set (2*a) fK).set (2*a+1) (bJ B)).set (2*a) (bJ A),[],-1,false⟩,true):=by
 have hE:(⟨#[]⟩:ByteArray).size<=64:=by decide
 have nf:∀ {x:Dk},Live x->¬ x.steps=false:=λhx e=>by rw[gu hx]at e; cases e
 unfold gA;dsimp only
 rw[dx h (by omega) hE,if_neg (nf h),if_neg (nf (cI _ _ _)),iS (cI _ _ _),if_neg (nf (cI _ _ _)),dx (cI _ _ _) ha hB,if_neg (nf (cI _ _ _)),iS (cI _ _ _),
  if_neg (nf (cI _ _ _)),dx (cI _ _ _) (by omega) hA,if_neg (nf (cI _ _ _)),iS (cI _ _ _)]
 rfl
def bc:St:=⟨0,[],0,0,false⟩
theorem zh:Good bc:=(fq _).1 (by decide)
theorem o9:l5 1 1 bc:=⟨by omega,by omega,by omega,by omega,zh⟩
def kL (n:Nat)(d:Dk):Dk:=((((d.write n ((0:Nat):Int) ⟨#[]⟩).write n ((1:Nat):Int) ⟨#[]⟩).write n ((2:Nat):Int) ⟨#[]⟩).write n ((3:Nat):Int) ⟨#[]⟩).flush
theorem Et{n:Nat}{d:Dk}(h:Live d)(ok:d.ok n)(n6:6<=n) : Live (kL n d)/\(kL n d).wait=[]/\(gA n (kL n d) 1 (kA 1 1 bc) (kB 1 1 bc)).2=true/\KD n (gA n (kL n d) 1 (kA 1 1 bc) (kB 1 1 bc)).1 1 1 bc/\Live (gA n (kL n d) 1 (kA 1 1 bc) (kB 1 1 bc)).1:=by
 have hE:(⟨#[]⟩:ByteArray).size<=64:=by decide
 have nl:=ok.nl
 have e:kL n d=⟨(((d.now.set 0 fK).set 1 fK).set 2 fK).set 3 fK,(((d.now.set 0 fK).set 1 fK).set 2 fK).set 3 fK,[],-1,false⟩:=by unfold kL;rw[dx h (by omega) hE,dx (cI _ _ _) (by omega) hE,dx (cI _ _ _) (by omega) hE,dx (cI _ _ _) (by omega) hE,iS (cI _ _ _)];rfl
 have hA:(kA 1 1 bc).size<=64:=l5.kA_size;have hB:=o9.kB_size;rw[e,Bh (cI _ _ _) (by omega) hA hB];refine⟨cI _ _ _,rfl,rfl,⟨⟨ok.n40,by simp[nl],by simp[nl],(λ_ hr=>by cases hr),by show(-1:Int)<=-1; omega,by show(-1:Int)<=_; omega⟩,n6,rfl,rfl,rfl,by omega,⟨?_,?_,o9⟩,.inl ?_⟩,cI _ _ _⟩
 .show List.getD _ 2 _=_;rw[dQ (by simp[nl]; omega)]
 .show List.getD _ 3 _=_;rw[getD_set_ne (by decide),dQ (by simp[nl]; omega)]
 .show List.getD _ 0 _=_;rw[getD_set_ne (by decide),getD_set_ne (by decide),getD_set_ne (by decide),getD_set_ne (by decide),getD_set_ne (by decide),getD_set_ne (by decide),dQ (by omega)]
theorem np.next{S:Nat->Prop}{w w':World}{K D n:Nat}{a:Option Addr}{cap:Nat}{k:Kp}{d:Dk}(h:np S w K D n a cap k)(hd:cX (grow S w w') w' 152 197 D n d)(kp:ac S w w'):np (grow S w w') w' K D n a cap { k with d:=d }:=by
 have hK:=(Gl h.blk)
 refine⟨(kp.block K h.nk hK).trans h.blk,hd,λe=>?_,λb e=>?_,h.str.keeps kp (λb o e hn=>(h.ap b o e hn).1),λb o e hn=>⟨λhS=>?_,(h.ap b o e hn).2⟩⟩
 .rcases e with e | e
  .exact h.nk e
  .omega
 .rcases e with e | e
  .exact Nat.lt_of_lt_of_le (h.lt b e) kp.size
  .exact e.2
 .subst e;have:=h.str.blt hn
  rcases hS with e | e
  .exact(h.ap b o rfl hn).1 e
  .omega
structure FF (S0:Nat->Prop) (w:World) (K D n:Nat) (k:Kp) (S:Nat->Prop) (wx:World):Prop where
 kr:np S wx K D n none 0 k
 sub:∀b,S b->grow S0 w wx b
 keep:ac S0 w wx
theorem FF.next{S0 S:Nat->Prop}{w wx w':World}{K D n:Nat}{k:Kp}{d:Dk}(f:FF S0 w K D n k S wx)(hd:cX (grow S wx w') w' 152 197 D n d)(kp:ac S wx w'):FF S0 w K D n { k with d:=d } (grow S wx w') w':=by
 refine⟨f.kr.next hd kp,λb e=>?_,?_⟩
 .rcases e with e | e
  .rcases f.sub b e with e | e
   .exact .inl e
   .exact .inr ⟨e.1,Nat.lt_of_lt_of_le e.2 kp.size⟩
  .exact .inr ⟨Nat.le_trans f.keep.size e.1,e.2⟩
 .refine⟨kp.os.trans f.keep.os,kp.tape.trans f.keep.tape,kp.output.trans f.keep.output,Nat.le_trans f.keep.size kp.size,λb hb lB=>?_⟩;refine(kp.block b (λe=>?_) (Nat.lt_of_lt_of_le lB f.keep.size)).trans (f.keep.block b hb lB)
  rcases f.sub b e with e | e
  .exact hb e
  .omega
def pu (n:Nat)(d:Dk):Nat->Dk
 | 0=>d
 | k+1=>(pu n d k).write n (k:Int) ⟨#[]⟩
theorem pq{n:Nat}{d:Dk}(h:Live d)(ok:d.ok n)(n6:6<=n)(hw:d.wait.length<=800):∀k,k<=4->Live (pu n d k)/\(pu n d k).ok n/\(pu n d k).wait.length<=800+k
 | 0,_=>⟨h,ok,hw⟩
 | k+1,hk=>by
  obtain⟨h1,h2,h3⟩:=pq h ok n6 hw k (by omega);refine⟨?_,Dk.write_ok h2 _ _,?_⟩
  .unfold pu; rw[dx h1 (by omega) (by decide)]; exact cI _ _ _
  .unfold pu; rw[dx h1 (by omega) (by decide)]; simp; omega
def xT(S:Nat->Prop)(w:World)(D n:Nat)(e:Ending)(w':World):Prop :=
 e=.returned .nilIface/\∃d' S',cX S' w' 152 197 D n d'/\KD n d' 1 1 bc/\Live d'/\Sz d'/\(∀b,S' b->grow S w w' b)/\(∀b,S' b->b<w'.heap.size)/\ac S w w'
theorem ww(S:Nat->Prop)(w:World)(D n:Nat)(d:Dk)(h:cX S w 152 197 D n d)(hl:Live d)(ok:d.ok n)(sz:Sz d)(n6:6<=n)(hw:d.wait.length<=800)(lt:∀b,S b->b<w.heap.size)(gl:8<=w.heap.size)(tt:∀w',ac S w w'->Tabs w') : Calls Tryz.prog 38 #[.pointer (some ⟨D,0,none⟩)] w λe w'=>xT S w D n e w':=by
 have HH:=Hx h;have HL:=Hx hl;have OK:=Hx ok;have LT:=Hx lt;have TT:=Hx tt;have SZ:=Hs (Sz (gA n (kL n d) 1 (kA 1 1 bc) (kB 1 1 bc)).1) (Sz.lay (Sz.flush (Sz.write (Sz.write (Sz.write (Sz.write sz _ _) _ _) _ _) _ _)));have FW:=Hx (pq hl ok n6 hw);have FL:=Hx (Et hl ok n6);have SEC:=Hx (λw' (hd:cX S w' 152 197 D n d)=>lV S w' D n d hd);have n40:=ok.n40;clear h hl ok lt tt hw sz;go_enter Tryz.func38,Tryz.ntmps38
 go_wp2_with fail;refine(SEC.out _ HH.out).mono ?_;rintro e w0 ⟨rfl,rfl⟩
 have hn6:¬ (n:Int)<6:=by omega
 have F0:=Hs (FF S w0 w0.heap.size D n ⟨pu n d 0,0,0,bc⟩ S (w0.alloc (.cells #[.pointer (some ⟨D,0,none⟩),.int .i64 0,.int .i64 0,.int .i64 0,.slice none 0 0,.int .i64 0,.int .i64 0,.bool false] 154))) (  ⟨⟨heap_alloc_new w0 _,HH.out.below (ay w0 _),λe=>by have:=LT.out _ e; omega,λb e=>by have:=LT.out b e; simp; omega,⟨by simp[bc],bE.nil _ _ _⟩,λb o e=>by cases e⟩,λb e=>.inl e,ac.of_below (ay w0 _)⟩);go_wp2;go_loopw [4,5,14] (λ_ _ i wr=>∃k:Nat,k<=4/\i=.int .i64 k/\∃S',FF S w0 w0.heap.size D n ⟨pu n d k,0,0,bc⟩ S' wr) (λ_ _ i _=>4 - (RowKit.intOf i).toNat)
 case atStart=>exact⟨0,by omega,rfl,S,F0.out⟩
 case round =>
  obtain⟨k,hk,rfl,S1,hf⟩:=hrel;have F1:=Hx hf;clear hf;by_cases lB:k<4
  .obtain⟨h1,h2,h3⟩:=FW.out k (by omega);have ST:=Hx (gu h1)
   have hk4:((k:Nat):Int)<4:=by omega
   have WR:=Hx (iU S1 wr D n (pu n d k) (k:Int) ⟨#[]⟩ F1.out.kr.dk h2 (by omega));clear h1 h2 h3;go_wp2_with fail;refine WR.out.mono ?_;rintro e w3 ⟨rfl,hd,kp⟩;have F2:=Hs (FF S w0 w0.heap.size D n ⟨pu n d (k+1),0,0,bc⟩ (grow S1 wr w3) w3) (F1.out.next hd kp);rw[Dk.writeF_of (by omega) (by omega) (by decide),ST.out];simp only[if_true];rw[aH];clear hd kp;go_wp2;go_roundw
   case rel=>exact⟨k+1,by omega,by go_num,_,F2.out⟩
   case measure=>simp[RowKit.intOf]; omega
  .obtain rfl:k=4:=by omega
   obtain⟨h1,h2,h3⟩:=FW.out 4 (by omega);have ST:=Hx (gu h1);have FLU:=Hx (iW S1 wr D n (pu n d 4) F1.out.kr.dk h2);have OKF:=Hs ((kL n d).ok n) (Dk.flush_ok' h2);clear h1 h2 h3;go_wp2_with fail;refine FLU.out.mono ?_;rintro e w3 ⟨rfl,hd,kp⟩;have F2:=Hs (FF S w0 w0.heap.size D n ⟨kL n d,0,0,bc⟩ (grow S1 wr w3) w3) (F1.out.next (hd.mono (λ_ e=>.inl e)) kp);rw[ST.out];simp only[if_true];rw[aH];clear hd kp;have LAY:=Hx (xz _ w3 w0.heap.size D n none none 0 0 ⟨kL n d,0,0,bc⟩ 1 bc F2.out.kr OKF.out (by show(kL n d).wait.length<=900; rw[FL.out.2.1]; simp) n6 (by show(0:Int)<=0; omega) (by show l5 (0+1) 1 bc; exact o9) ⟨by simp[bc],bE.nil _ _ _⟩ (λb o e=>by cases e) (TT.out _ F2.out.keep));go_wp2_with fail;refine LAY.out.mono ?_;rintro e w4 ⟨rfl,S2,a2,cap2,k2,s2,kk2,-⟩
   have RES:(⟨kL n d,0,0,bc⟩:Kp).lay n 1 bc=(⟨(gA n (kL n d) 1 (kA 1 1 bc) (kB 1 1 bc)).1,1,1,bc⟩,0):=by unfold Kp.lay;show(if (gA n (kL n d) 1 (kA 1 1 bc) (kB 1 1 bc)).2=true then _ else _)=_;rw[if_pos FL.out.2.2.1];rfl
   rw[RES]at k2 ⊢
   have POST:=Hs (xT S w0 D n (.returned .nilIface) w4) (by
    refine⟨rfl,_,S2,k2.dk,FL.out.2.2.2.1,FL.out.2.2.2.2,SZ.out,λb e=>?_,k2.lt,?_⟩
    .rcases s2 b e with e | e
     .rcases F2.out.sub b e with e | e
      .exact .inl e
      .exact .inr ⟨e.1,Nat.lt_of_lt_of_le e.2 kk2.size⟩
     .exact .inr ⟨Nat.le_trans F2.out.keep.size e.1,e.2⟩
    .refine⟨kk2.os.trans F2.out.keep.os,kk2.tape.trans F2.out.keep.tape,kk2.output.trans F2.out.keep.output,Nat.le_trans F2.out.keep.size kk2.size,λb hb lB=>?_⟩;refine(kk2.block b (λe=>?_) (Nat.lt_of_lt_of_le lB F2.out.keep.size)).trans (F2.out.keep.block b hb lB)
     rcases e with e | e
     .rcases F2.out.sub b e with e | e
      .exact hb e
      .omega
     .omega)
   clear k2 s2 kk2 RES;rw[aH];go_wp2;go_ret;exact POST.out
end
section
open Go.RowKit Go.Lib
theorem iH{P:Program}{fn:Func}{p q r u:Tmp}{ty:TypeId}(h:fn.results=#[.tmp p,.tmp q,.cell r ty,.tmp u])(tmps:Array Value)(w:World)(g:Nat)(t:TypeId)(cs:Array Value)(d:TypeDesc)(v1 v2 v3:Value)
  (hp:tmps.getD p undef=v1) (hq:tmps.getD q undef=v2) (hr:tmps.getD r undef=.pointer (some ⟨g,0,none⟩)) (hu':tmps.getD u undef=v3) (hg:w.heap[g]?=some (.cells cs t (0,0)))
  (hu:P.underlying ty=some d) (hd:(match d with | .struct _ | .array _ _=>true | _=>false)=true) (hi:(P.info? ty).map (·.size)=some cs.size) :
  (results fn tmps).run P w=.ok (.tuple #[v1,v2,.agg cs,v3]) w:=by
 have JJ:tmps[p]?.getD undef=v1:=by simpa using hp
 have MQ:tmps[q]?.getD undef=v2:=by simpa using hq
 have NF:tmps[r]?.getD undef=.pointer (some ⟨g,0,none⟩):=by simpa using hr
 have hu2:tmps[u]?.getD undef=v3:=by simpa using hu'
 simp[results,h,JJ,MQ,NF,hu2,asAddr,run_loadVar_row w g t ty cs (0,0) d hg hu hd hi]
theorem jI{S:Nat->Prop}{w:World}{D n:Nat}{d:Dk}(h:cX S w 152 197 D n d)(ok:d.ok n)(up:d.down=false)(i:Nat)(hi:i<n) : Calls Tryz.prog 139 #[.pointer (some ⟨D,0,none⟩),.int .i64 (i:Int)] w λe w'=>e=.returned (.tuple #[.string (d.now.getD i ⟨#[]⟩),.nilIface])/\w'=w:=by
 have hs:d.readS n (i:Int)=d.now.getD i ⟨#[]⟩:=by unfold Dk.readS;rw[if_neg (by simp[up]),if_neg (by omega)];rfl
 have hf:d.readF n (i:Int)=0:=by unfold Dk.readF;rw[if_neg (by simp[up]),if_neg (by omega)]
 have:=zt S w D n d (i:Int) h ok;rw[hs,hf,aH]at this;exact this
theorem yQ(S:Nat->Prop)(w:World)(D n:Nat)(d:Dk)(p:Nat)(h:cX S w 152 197 D n d)(ok:d.ok n)(up:d.down=false)(sz:Sz d)(hp:2*p+1<n)(h0:d.now.getD (2*p) ⟨#[]⟩=fK)(t:Tabs w) : Calls Tryz.prog 115 #[.pointer (some ⟨D,0,none⟩),.int .i64 (p:Int)] w λe w'=>e=.returned (.tuple #[.int .i64 0,.int .i64 0,dh bc none 0,.nilIface])/\Below w.heap.size w w':=by
 have TT:=Hx t;have n40:=ok.n40;obtain⟨X0,hX0⟩:=Nn (d.now.getD (2*p) ⟨#[]⟩);obtain⟨X1,Nq⟩:=Nn (d.now.getD (2*p+1) ⟨#[]⟩);have s0:X0.size=64:=hX0▸sz.sector ok (by omega);have s1:X1.size=64:=Nq▸sz.sector ok (by omega);obtain⟨w1,pX⟩:=Nn (w.alloc (.cells #[.int .i64 0,.slice none 0 0,.int .i64 0,.int .i64 0,.bool false] 34));have B1:=Hs (Below w.heap.size w w1) (pX▸ay w _);have R1:=Hs (w1.heap[w.heap.size]?=some (.cells #[.int .i64 0,.slice none 0 0,.int .i64 0,.int .i64 0,.bool false] 34 (0,0))) (pX▸heap_alloc_new w _);have D1:=Hs (cX S w1 152 197 D n d) (pX▸h.below (ay w _))
 have RD0:=Hs (Calls Tryz.prog 139 #[.pointer (some ⟨D,0,none⟩),.int .i64 (2*(p:Int))] w1 λe w'=>e=.returned (.tuple #[.string X0,.nilIface])/\w'=w1) (by
  have:=jI D1.out ok up (2*p) (by omega);rw[<-hX0,show((2*p:Nat):Int)=2*(p:Int) by omega]at this
  exact this)
 have RD1:=Hs (Calls Tryz.prog 139 #[.pointer (some ⟨D,0,none⟩),.int .i64 (2*(p:Int)+1)] w1 λe w'=>e=.returned (.tuple #[.string X1,.nilIface])/\w'=w1) (by
  have:=jI D1.out ok up (2*p+1) hp;rw[<-Nq,show((2*p+1:Nat):Int)=2*(p:Int)+1 by omega]at this
  exact this)
 obtain⟨r,hr⟩:∃r:Bs,(⟨#[]⟩:ByteArray) ++ X0 ++ X1=aQ (0 :: r):=by refine⟨List.replicate 63 0 ++ X1.data.toList,?_⟩;rw[hX0,h0,<-Bi X1,show(⟨#[]⟩:ByteArray)=aQ [] from rfl,fK,show(⟨#[]⟩:ByteArray)=aQ [] from rfl,pp,ez,ez,dz];rfl
 have hlen:(0 :: r).length=128:=by have:=congrArg ByteArray.size hr;rw[ByteArray.size_append,ByteArray.size_append,bp,s0,s1]at this;rw[<-this];rfl
 obtain⟨aa,l,hsp⟩:=vu 4 r;have HR:=Hx hr;have Jp:=Hx hlen;have HSP:=Hx hsp
 have hp20:(p:Int)<=20:=by omega
 have HW1:=Hx pX;have a1:=λw=>run_string_add_sum (P:=Tryz.prog) w (⟨#[]⟩:ByteArray) X0 (by rw[s0]; simp[ByteArray.size]);have a2:=λw=>run_string_add_sum (P:=Tryz.prog) w ((⟨#[]⟩:ByteArray) ++ X0) X1 (by rw[ByteArray.size_append,s0,s1]; simp[ByteArray.size])
 have hp0:(0:Int)<=(p:Int):=by omega
 clear h ok up sz h0 hX0 Nq t pX hr hlen hsp;go_enter Tryz.func115,Tryz.ntmps115
 go_wp2;rw[<-HW1.out];refine wp_loop_rounds 3 ?_;rw[rounds_succ];go_wp2_with fail;refine RD0.out.mono ?_;rintro e w2 ⟨rfl,hw⟩;obtain rfl:=hw;go_wp2;rw[rounds_succ];go_wp2_with fail;refine RD1.out.mono ?_;rintro e w2 ⟨rfl,hw⟩;obtain rfl:=hw;go_wp2;rw[rounds_succ];go_wp2_with fail;rw[HR.out];refine(ov (0 :: r) _ (TT.out.on B1.out) (by rw[Jp.out]; omega) (by rw[Jp.out]; omega)).mono ?_;rintro e w3 ⟨rfl,b3,lt3,cells⟩;obtain⟨L,hL⟩:=Nn ((Lib.splitK [32] 0 4 (0 :: r)).length)
 have L0:0<L:=by rw[hL,HSP.out]; simp
 have c0:=cells 0 (0 :: aa) (by rw[HSP.out]; rfl);rw[<-hL]
 have q0:((aQ (0 :: aa)).toList == [107])=false:=by rw[ByteArray.toList_eq,dz]; rfl
 have B3:=Hx (B1.out.trans (b3.mono B1.out.size));have R3:=Hx ((b3.block w.heap.size (Gl R1.out)).trans R1.out);obtain⟨⟨z0,z1,z2,z3,z4⟩,f0,f1,f2,f3,f4⟩:=cells5 R3.out;clear cells hL b3 a1 a2;by_cases h5:(L:Int)<5
 .go_wp2;refine bodyPost_ret (v:=.tuple #[.int .i64 0,.int .i64 0,dh bc none 0,.nilIface]) (iH Tryz.results115 _ _ w.heap.size 34 #[.int .i64 0,.slice none 0 0,.int .i64 0,.int .i64 0,.bool false] _ (.int .i64 0) (.int .i64 0) .nilIface rfl rfl rfl rfl (dF R3.out _ _ _ _ _) br.1 rfl br.2) rfl ?_;exact⟨rfl,bW B3.out (Nat.le_refl _) _ _ _ _ _⟩
 .have h5':¬ (L:Int)<=0:=by omega
  go_wp2;refine bodyPost_ret (v:=.tuple #[.int .i64 0,.int .i64 0,dh bc none 0,.nilIface]) (iH Tryz.results115 _ _ w.heap.size 34 #[.int .i64 0,.slice none 0 0,.int .i64 0,.int .i64 0,.bool false] _ (.int .i64 0) (.int .i64 0) .nilIface rfl rfl rfl rfl (dF R3.out _ _ _ _ _) br.1 rfl br.2) rfl ?_;exact⟨rfl,bW B3.out (Nat.le_refl _) _ _ _ _ _⟩
def uV(m e:Int)(s:St)(w:World)(x:Ending)(w':World):Prop :=
 ∃a cap,x=.returned (.tuple #[.int .i64 m,.int .i64 e,dh s a cap,.nilIface])/\bj w' s a/\Below w.heap.size w w'/\∀b o,a=some ⟨b,o,none⟩->w.heap.size<=b
structure LK (w:World) (SB AB:Nat) (m e:Int) (s:St) (z:Bs) (v0 v1 v2:Int) (wx:World):Prop where
 bl:Below w.heap.size w wx
 c1:wx.cell? ⟨SB,1,none⟩=some (.string (aQ (itoa m)))
 c2:wx.cell? ⟨SB,2,none⟩=some (.string (aQ (itoa e)))
 c3:wx.cell? ⟨SB,3,none⟩=some (.string (aQ (itoa ((aP s).length:Int))))
 c4:wx.cell? ⟨SB,4,none⟩=some (.string (aQ (aP s ++ z)))
 arr:wx.heap[AB]?=some (.cells #[.int .i64 v0,.int .i64 v1,.int .i64 v2] 213 (0,0))
 res:wx.heap[w.heap.size]?=some (.cells #[.int .i64 0,.slice none 0 0,.int .i64 0,.int .i64 0,.bool false] 34 (0,0))
 sb:SB<AB
 rs:w.heap.size<SB
section
variable {w wx w':World} {SB AB:Nat} {m e:Int} {s:St} {z:Bs} {v0 v1 v2 u0 u1 u2:Int}
theorem LK.lt(f:LK w SB AB m e s z v0 v1 v2 wx):AB<wx.heap.size:=(Gl f.arr)
theorem LK.upd(f:LK w SB AB m e s z v0 v1 v2 wx)(hb:Below w.heap.size wx w')(same:∀k,k≠AB->k<wx.heap.size->w'.heap[k]?=wx.heap[k]?)(ha:w'.heap[AB]?=some (.cells #[.int .i64 u0,.int .i64 u1,.int .i64 u2] 213 (0,0))):LK w SB AB m e s z u0 u1 u2 w':=by have h1:=f.sb; have h2:=f.rs; have h3:=f.lt;have hs:=same SB (by omega) (by omega);have c:∀i,w'.cell? ⟨SB,i,none⟩=wx.cell? ⟨SB,i,none⟩:=λi=>World.cell?_of_block (a:=⟨SB,i,none⟩) hs;exact⟨f.bl.trans hb,(c 1).trans f.c1,(c 2).trans f.c2,(c 3).trans f.c3,(c 4).trans f.c4,ha,(same _ (by omega) (by omega)).trans f.res,h1,h2⟩
theorem LK.over(f:LK w SB AB m e s z v0 v1 v2 wx)(b:Below wx.heap.size wx w'):LK w SB AB m e s z v0 v1 v2 w' :=
 f.upd (b.mono f.bl.size) (λk _ hk=>b.block k hk) ((b.block _ f.lt).trans f.arr)
theorem LK.set(f:LK w SB AB m e s z v0 v1 v2 wx)(i:Nat)(u:Int)(ha:#[Value.int .i64 v0,.int .i64 v1,.int .i64 v2].setIfInBounds i (.int .i64 u)=#[.int .i64 u0,.int .i64 u1,.int .i64 u2]):LK w SB AB m e s z u0 u1 u2 (wx.setCell ⟨AB,i,none⟩ (.int .i64 u)):=by have h1:=f.sb; have h2:=f.rs;exact f.upd ((Below.refl _ _).setCell (p:=⟨AB,i,none⟩) (by show w.heap.size<=AB; omega) _) (λk hk _=>Below.heap_setCell _ _ _ _ hk) (by rw[one_setCell f.arr (.int .i64 u),ha])
theorem LK.cells(f:LK w SB AB m e s z v0 v1 v2 wx):(wx.cell? ⟨AB,0,none⟩=some (.int .i64 v0)/\wx.cell? ⟨AB,1,none⟩=some (.int .i64 v1)/\wx.cell? ⟨AB,2,none⟩=some (.int .i64 v2))/\wx.frozen? ⟨AB,0,none⟩=false/\wx.frozen? ⟨AB,1,none⟩=false/\wx.frozen? ⟨AB,2,none⟩=false:=by have h:=f.arr; simp[World.cell?,World.frozen?,h]
theorem Bg(f:LK w SB AB m e s z v0 v1 v2 wx):(wx.cell? ⟨w.heap.size,0,none⟩=some (.int .i64 0)/\wx.cell? ⟨w.heap.size,1,none⟩=some (.slice none 0 0)/\wx.cell? ⟨w.heap.size,2,none⟩=some (.int .i64 0)/\wx.cell? ⟨w.heap.size,3,none⟩=some (.int .i64 0)/\wx.cell? ⟨w.heap.size,4,none⟩=some (.bool false)) /\ (wx.frozen? ⟨w.heap.size,0,none⟩=false/\wx.frozen? ⟨w.heap.size,1,none⟩=false/\wx.frozen? ⟨w.heap.size,2,none⟩=false/\wx.frozen? ⟨w.heap.size,3,none⟩=false/\wx.frozen? ⟨w.heap.size,4,none⟩=false):=cells5 f.res
end
theorem ch{X:World}{a:Addr}{v:Option Value}(h:X.cell? a=v):X.drew.cell? a=v:=h
theorem yN(U:ByteArray)(N:Nat)(s:St)(w:World)(hN:N=(aP s).length){z:Bs}(hU:U=aQ (aP s ++ z))(hz:(∀b∈z,b=0)/\z.length<=128) : Calls Tryz.prog 143 #[.string (U.extract N U.size),.string ⟨#[0]⟩] w λe w'=>e=.returned (.string ⟨#[]⟩)/\Below w.heap.size w w':=by
 have he:U.extract N U.size=aQ z:=by rw[hU,hN,bp];apply ByteArray.ext;rw[ByteArray.data_extract];apply Array.toList_inj.1;simp[aQ,List.extract_eq_take_drop]
 rw[he];exact ye z w (by omega) hz.1
theorem vR(U:ByteArray)(N:Nat)(s:St)(w:World)(t:Tabs w)(g:Good s)(hN:N=(aP s).length){z:Bs}(hU:U=aQ (aP s ++ z)) : Calls Tryz.prog 142 #[.string (U.extract 0 N)] w λq w'=>∃a cap,q=.returned (.tuple #[dh s a cap,.nilIface])/\bj w' s a/\Below w.heap.size w w'/\∀b o,a=some ⟨b,o,none⟩->w.heap.size<=b:=by
 have he:U.extract 0 N=aQ (aP s):=by rw[hU,hN];apply ByteArray.ext;rw[ByteArray.data_extract];apply Array.toList_inj.1;simp[aQ,List.extract_eq_take_drop]
 rw[he];refine(parse_any (aQ (aP s)) w t (by rw[bp]; have:=g.text_len; omega)).mono ?_;rintro q w' ⟨h5,b5⟩
 rcases h5 with⟨s',a,cap,hg,ht,rfl,hr,hf⟩ | ⟨h5,-⟩
 .obtain rfl:=vt hg g (EH ht);exact⟨a,cap,rfl,hr,b5,hf⟩
 .exact absurd rfl (h5 s g)
theorem yP(S:Nat->Prop)(w:World)(D n:Nat)(d:Dk)(p:Nat)(m e:Int)(s:St)(h:cX S w 152 197 D n d)(ok:d.ok n)(up:d.down=false)(sz:Sz d)(hp:2*p+1<n)(JI:Place d.now p m e s)(t:Tabs w) : Calls Tryz.prog 115 #[.pointer (some ⟨D,0,none⟩),.int .i64 (p:Int)] w λx w'=>uV m e s w x w':=by
 have TT:=Hx t;have KN:=Hx JI.k;have n40:=ok.n40;obtain⟨X0,hX0⟩:=Nn (d.now.getD (2*p) ⟨#[]⟩);obtain⟨X1,Nq⟩:=Nn (d.now.getD (2*p+1) ⟨#[]⟩);have s0:X0.size=64:=hX0▸sz.sector ok (by omega);have s1:X1.size=64:=Nq▸sz.sector ok (by omega);obtain⟨w1,pX⟩:=Nn (w.alloc (.cells #[.int .i64 0,.slice none 0 0,.int .i64 0,.int .i64 0,.bool false] 34));have B1:=Hs (Below w.heap.size w w1) (pX▸ay w _);have R1:=Hs (w1.heap[w.heap.size]?=some (.cells #[.int .i64 0,.slice none 0 0,.int .i64 0,.int .i64 0,.bool false] 34 (0,0))) (pX▸heap_alloc_new w _);have D1:=Hs (cX S w1 152 197 D n d) (pX▸h.below (ay w _))
 have RD0:=Hs (Calls Tryz.prog 139 #[.pointer (some ⟨D,0,none⟩),.int .i64 (2*(p:Int))] w1 λe w'=>e=.returned (.tuple #[.string X0,.nilIface])/\w'=w1) (by
  have:=jI D1.out ok up (2*p) (by omega);rw[<-hX0,show((2*p:Nat):Int)=2*(p:Int) by omega]at this
  exact this)
 have RD1:=Hs (Calls Tryz.prog 139 #[.pointer (some ⟨D,0,none⟩),.int .i64 (2*(p:Int)+1)] w1 λe w'=>e=.returned (.tuple #[.string X1,.nilIface])/\w'=w1) (by
  have:=jI D1.out ok up (2*p+1) hp;rw[<-Nq,show((2*p+1:Nat):Int)=2*(p:Int)+1 by omega]at this
  exact this)
 obtain⟨z,hz⟩:∃z:Bs,z=List.replicate (128 - (fJ m e s).length) 0:=⟨_,rfl⟩
 have hkl:=KN.out.len
 have hr:(⟨#[]⟩:ByteArray) ++ X0 ++ X1=aQ (fJ m e s ++ z):=by rw[hX0,Nq,JI.a,JI.b,hz,<-tq _ (by omega)];unfold kA kB;rw[show(⟨#[]⟩:ByteArray)=aQ [] from rfl,ByteArray.append_assoc];apply ByteArray.ext;simp[aQ]
 have hlen:(fJ m e s ++ z).length=128:=by rw[hz]; simp; omega
 have ZZ:=Hs ((∀b∈z,b=0)/\z.length<=128) (⟨λb hb=>by rw[hz]at hb; exact List.eq_of_mem_replicate hb,by rw[hz]; simp⟩);have HR:=Hx hr;have Jp:=Hx hlen;have HSP:=Hx (rH m e s z)
 have hp20:(p:Int)<=20:=by omega
 have HW1:=Hx pX;have a1:=λw=>run_string_add_sum (P:=Tryz.prog) w (⟨#[]⟩:ByteArray) X0 (by rw[s0]; simp[ByteArray.size]);have a2:=λw=>run_string_add_sum (P:=Tryz.prog) w ((⟨#[]⟩:ByteArray) ++ X0) X1 (by rw[ByteArray.size_append,s0,s1]; simp[ByteArray.size])
 have hp0:(0:Int)<=(p:Int):=by omega
 clear h ok up sz hX0 Nq t pX hr hlen JI hz hkl;go_enter Tryz.func115,Tryz.ntmps115
 go_wp2;rw[<-HW1.out];refine wp_loop_rounds 3 ?_;rw[rounds_succ];go_wp2_with fail;refine RD0.out.mono ?_;rintro e w2 ⟨rfl,hw⟩;obtain rfl:=hw;go_wp2;rw[rounds_succ];go_wp2_with fail;refine RD1.out.mono ?_;rintro e w2 ⟨rfl,hw⟩;obtain rfl:=hw;go_wp2;rw[rounds_succ];go_wp2_with fail;rw[HR.out];refine(ov (fJ m e s ++ z) _ (TT.out.on B1.out) (by rw[Jp.out]; omega) (by rw[Jp.out]; omega)).mono ?_;rintro e' w3 ⟨rfl,b3,lt3,cells⟩;rw[HSP.out]at cells ⊢;have c0:=cells 0 [107] rfl;have CE:=Hs (w3.cell? ⟨w2.heap.size,1,none⟩=some (.string (aQ (itoa m)))/\w3.cell? ⟨w2.heap.size,2,none⟩=some (.string (aQ (itoa e)))/\w3.cell? ⟨w2.heap.size,3,none⟩=some (.string (aQ (itoa ((aP s).length:Int))))/\w3.cell? ⟨w2.heap.size,4,none⟩=some (.string (aQ (aP s ++ z)))) (⟨cells 1 _ rfl,cells 2 _ rfl,cells 3 _ rfl,cells 4 _ rfl⟩)
 have q0:((aQ [107]).toList == [107])=true:=by rw[ByteArray.toList_eq,dz]; rfl
 have B3:=Hx (B1.out.trans (b3.mono B1.out.size));have R3:=Hx ((b3.block w.heap.size (Gl R1.out)).trans R1.out);have LT3:=Hx lt3;have LTR:=Hx (Gl R1.out);clear cells b3 a1 a2 lt3 s0 s1;simp only[List.length_cons,List.length_nil,Nat.zero_add,Nat.reduceAdd];go_wp2
 have K4:=Hs (LK w w2.heap.size w3.heap.size m e s z 0 0 0 (w3.alloc (.cells #[.int .i64 0,.int .i64 0,.int .i64 0] 213))) (  have cc:=λi=>(ay w3 (.cells #[.int .i64 0,.int .i64 0,.int .i64 0] 213)).cell (p:=⟨w2.heap.size,i,none⟩) LT3.out
  ⟨B3.out.trans ((ay w3 _).mono B3.out.size),(cc 1).trans CE.out.1,(cc 2).trans CE.out.2.1,(cc 3).trans CE.out.2.2.1,(cc 4).trans CE.out.2.2.2,heap_alloc_new w3 _,((ay w3 _).block _ (by have:=LT3.out; have:=LTR.out; omega)).trans R3.out,LT3.out,LTR.out⟩)
 obtain⟨w4,Iq⟩:=Nm (w3.alloc (.cells #[.int .i64 0,.int .i64 0,.int .i64 0] 213));rw[Iq]at K4 ⊢;obtain⟨AB,hAB⟩:=Nn w3.heap.size;obtain⟨SB,hSB⟩:=Nn w2.heap.size;rw[<-hAB,<-hSB]at K4 ⊢;clear Iq hAB hSB CE B3 R3 LT3 LTR
 have hm0:¬ m<0:=by have:=KN.out.n0; omega
 have he0:¬ e<0:=by have:=KN.out.e0; omega
 have hl0:¬ ((aP s).length:Int)<0:=by omega
 refine wp_loop_rounds 4 ?_;rw[rounds_succ];have x0:=K4.out.c1;go_wp2_with fail;refine(mE m _ (TT.out.on K4.out.bl) (by have:=KN.out.n0; omega) (by have:=KN.out.n1; omega)).mono ?_;rintro q w5 ⟨rfl,b5⟩;have K5:=Hx (K4.out.over b5);clear b5 x0;obtain⟨⟨y0,y1,y2⟩,f0,f1,f2⟩:=K5.out.cells;have K6:=Hx (K5.out.set (u0:=m) (u1:=0) (u2:=0) 0 m rfl);go_wp2;obtain⟨w6,hs⟩:=Nm (w5.setCell ⟨AB,0,none⟩ (.int .i64 m));rw[hs]at K6 ⊢;clear hs y0 y1 y2 f0 f1 f2;rw[rounds_succ];have x1:=K6.out.c2;go_wp2_with fail;refine(mE e _ (TT.out.on K6.out.bl) (by have:=KN.out.e0; omega) (by have:=KN.out.e1; omega)).mono ?_;rintro q w7 ⟨rfl,b5⟩;have K7:=Hx (K6.out.over b5);clear b5 x1;obtain⟨⟨y0,y1,y2⟩,f0,f1,f2⟩:=K7.out.cells;have K8:=Hx (K7.out.set (u0:=m) (u1:=e) (u2:=0) 1 e rfl);go_wp2;obtain⟨w8,hs⟩:=Nm (w7.setCell ⟨AB,1,none⟩ (.int .i64 e));rw[hs]at K8 ⊢;clear hs y0 y1 y2 f0 f1 f2;rw[rounds_succ];have x2:=K8.out.c3;go_wp2_with fail;refine(mE ((aP s).length:Int) _ (TT.out.on K8.out.bl) (by omega) (by have:=KN.out.g.text_len; omega)).mono ?_;rintro q w9 ⟨rfl,b5⟩;have K9:=Hx (K8.out.over b5);clear b5 x2;obtain⟨⟨y0,y1,y2⟩,f0,f1,f2⟩:=K9.out.cells;have K10:=Hx (K9.out.set (u0:=m) (u1:=e) (u2:=((aP s).length:Int)) 2 ((aP s).length:Int) rfl);go_wp2;obtain⟨w10,hs⟩:=Nm (w9.setCell ⟨AB,2,none⟩ (.int .i64 ((aP s).length:Int)));rw[hs]at K10 ⊢;clear hs y0 y1 y2 f0 f1 f2;rw[rounds_succ];go_upto_region 22 with fail;obtain⟨N,hN⟩:=Nn ((aP s).length);obtain⟨U,hU⟩:=Nn (aQ (aP s ++ z));have HN:=Hx hN;have HU:=Hx hU
 have US:=Hs (N<=U.size/\N<=48/\U.size<=300) (by
  have:=KN.out.g.text_len;have:=ZZ.out.2;rw[hU,bp,List.length_append,hN]
  omega)
 have x4:w10.cell? ⟨SB,4,none⟩=some (.string U):=hU▸K10.out.c4;have y2:w10.cell? ⟨AB,2,none⟩=some (.int .i64 (N:Int)):=hN▸K10.out.cells.1.2.2
 have hgt:¬ (U.size:Int)<(N:Int):=by have:=US.out; omega
 clear hN hU hm0 he0 hl0;go_quiet (fail)
 go_upto_region 24 with fail;obtain⟨wA,hwA⟩:=Nm (w10.drewN nq);have KA:=Hs (LK w SB AB m e s z m e ((aP s).length:Int) wA) (hwA▸K10.out.over (Go.below_drewN (Below.refl _ _) nq));rw[hwA];clear hwA x4 y2 hgt;have x4:wA.cell? ⟨SB,4,none⟩=some (.string U):=HU.out▸KA.out.c4;have y2:wA.cell? ⟨AB,2,none⟩=some (.int .i64 (N:Int)):=HN.out▸KA.out.cells.1.2.2;have RA:=Hx (Bg KA.out)
 have KEEP:=Hs (∀w',ac (·=w.heap.size) wA w'->ac (·=w.heap.size) wA w'/\w'.cell? ⟨SB,4,none⟩=some (.string U)/\w'.cell? ⟨AB,2,none⟩=some (.int .i64 (N:Int))) (λw' kp=>by
  have h1:=KA.out.sb; have h2:=KA.out.rs; have h3:=KA.out.lt
  exact⟨kp,(kp.cell (b:=SB) (by show ¬ SB=w.heap.size; omega) (by omega)).trans x4,(kp.cell (b:=AB) (by show ¬ AB=w.heap.size; omega) (by omega)).trans y2⟩)
 have PAR:=Hx (vR U N s wA.drew (TT.out.on (KA.out.over (Below.refl _ _).drew).bl) KN.out.g HN.out (by rw[HU.out]))
 have b0:(0:Int)<=(N:Int):=by omega
 have b1:(N:Int)<=(U.size:Int):=by have:=US.out; omega
 obtain⟨⟨r0,r1,r2,r3,r4⟩,g0,g1,g2,g3,g4⟩:=RA.out
 go_region_held3 (λw'=>ac (·=w.heap.size) wA w'/\w'.cell? ⟨SB,4,none⟩=some (.string U)/\w'.cell? ⟨AB,2,none⟩=some (.int .i64 (N:Int)))
  (first|(refine KEEP.out _ ?_; first | (with_reducible exact(ac.refl _ _).drew)|(with_reducible exact ac.of_below (by assumption))|(with_reducible exact dN (dN (dN (dN (dN (ac.of_below (by assumption)) _ _) _ _) _ _) _ _) _ _)))
  (first|((with_reducible refine PAR.out.mono ?_); rintro q w11 ⟨a,cap,rfl,ha,bq,fr⟩; have bA:Below wA.heap.size wA w11:=(Below.refl _ _).drew.trans bq; have RB:=Bg (KA.out.over bA); obtain⟨⟨r0,r1,r2,r3,r4⟩,g0,g1,g2,g3,g4⟩:=RB))
 obtain⟨w12,Ku⟩:=Nn (five w11 w.heap.size (.int .i64 s.gen) (.slice a s.regs.length cap) (.int .i64 s.typ) (.int .i64 s.holder) (.bool s.stays));have KB:=Hx (KA.out.over bA);have HA:=Hx ha;have FR:=Hs (∀b o,a=some ⟨b,o,none⟩->wA.heap.size<=b) fr;have RL:=Hs (w.heap.size<wA.heap.size) (by have h1:=KA.out.sb; have h2:=KA.out.rs; have h3:=KA.out.lt; omega);have R12:=Hs (w12.heap[w.heap.size]?=some (.cells #[.int .i64 s.gen,.slice a s.regs.length cap,.int .i64 s.typ,.int .i64 s.holder,.bool s.stays] 34 (0,0))) (Ku▸dF KB.out.res _ _ _ _ _);have B12:=Hs (Below w.heap.size w w12) (Ku▸bW KB.out.bl (Nat.le_refl _) _ _ _ _ _);have S12:=Hs (bj w12 s a) (Ku▸HA.out.five (λb o e=>by have:=FR.out b o e; have:=RL.out; omega) _ _ _ _ _)
 have C12:=Hs (w12.cell? ⟨SB,4,none⟩=some (.string U)/\w12.cell? ⟨AB,0,none⟩=some (.int .i64 m)/\w12.cell? ⟨AB,1,none⟩=some (.int .i64 e)/\w12.cell? ⟨AB,2,none⟩=some (.int .i64 (N:Int))/\SB<w12.heap.size/\AB<w12.heap.size/\w.heap.size<w12.heap.size) (by
  have h1:=KB.out.sb; have h2:=KB.out.rs; have h3:=KB.out.lt
  have hz:w12.heap.size=w11.heap.size:=by rw[Ku]; unfold five; simp[World.setCell]
  have e1:w12.heap[SB]?=w11.heap[SB]?:=Ku▸lS (by omega) _ _ _ _ _;have e2:w12.heap[AB]?=w11.heap[AB]?:=Ku▸lS (by omega) _ _ _ _ _;have cc:=KB.out.cells.1
  exact⟨(World.cell?_of_block (a:=⟨SB,4,none⟩) e1).trans (HU.out▸KB.out.c4),(World.cell?_of_block (a:=⟨AB,0,none⟩) e2).trans cc.1,(World.cell?_of_block (a:=⟨AB,1,none⟩) e2).trans cc.2.1,(World.cell?_of_block (a:=⟨AB,2,none⟩) e2).trans (HN.out▸cc.2.2),by omega,by omega,by omega⟩)
 have hw12':((((w11.setCell ⟨w.heap.size,0,none⟩ (.int .i64 s.gen)).setCell ⟨w.heap.size,1,none⟩ (.slice a s.regs.length cap)).setCell ⟨w.heap.size,2,none⟩ (.int .i64 s.typ)).setCell ⟨w.heap.size,3,none⟩ (.int .i64 s.holder)).setCell ⟨w.heap.size,4,none⟩ (.bool s.stays)=w12:=Ku.symm;rw[hw12'];clear Ku hw12' ha bA bq fr x4 y2 r0 r1 r2 r3 r4 g0 g1 g2 g3 g4 KEEP PAR KA KB RA;obtain⟨x4,y0,y1,y2,l1,l2,l3⟩:=C12.out;have KEEP2:=Hs (∀w',Below w12.heap.size w12 w'->Below w12.heap.size w12 w'/\w'.cell? ⟨SB,4,none⟩=some (.string U)/\w'.cell? ⟨AB,2,none⟩=some (.int .i64 (N:Int))) (λw' b=>⟨b,(b.cell (p:=⟨SB,4,none⟩) l1).trans x4,(b.cell (p:=⟨AB,2,none⟩) l2).trans y2⟩);have TRIM:=Hx (λw=>yN U N s w HN.out HU.out ZZ.out);go_upto_region 25 with fail
 go_region_held3 (λw'=>Below w12.heap.size w12 w'/\w'.cell? ⟨SB,4,none⟩=some (.string U)/\w'.cell? ⟨AB,2,none⟩=some (.int .i64 (N:Int)))
  (first|(refine KEEP2.out _ ?_; first | (with_reducible exact(Below.refl _ _).drew)|(with_reducible assumption)))
  (first|((with_reducible refine(TRIM.out _).mono ?_); rintro q w13 ⟨rfl,bt⟩; have bt2:Below w12.heap.size w12 w13:=(Below.refl _ _).drew.trans bt))
 have B13:=Hx (B12.out.trans (bt2.mono B12.out.size));have R13:=Hx ((bt2.block _ l3).trans R12.out);have S13:=Hx (S12.out.below bt2);have z0:=(bt2.cell (p:=⟨AB,0,none⟩) l2).trans y0;have z1:=(bt2.cell (p:=⟨AB,1,none⟩) l2).trans y1
 have hAR:AB≠w.heap.size:=by have h1:=K10.out.sb; have h2:=K10.out.rs; omega
 clear x4 y0 y1 y2 bt bt2 KEEP2 TRIM;obtain⟨⟨r0,r1,r2,r3,r4⟩,g0,g1,g2,g3,g4⟩:=cells5 R13.out;go_upto_region 27 with fail;have F5:=dF R13.out (.int .i64 s.gen) (.slice a s.regs.length cap) (.int .i64 s.typ) (.int .i64 s.holder) (.bool s.stays);have FC:=(cells5 F5).1;have FA:∀i,(five w13 w.heap.size (.int .i64 s.gen) (.slice a s.regs.length cap) (.int .i64 s.typ) (.int .i64 s.holder) (.bool s.stays)).cell? ⟨AB,i,none⟩=w13.cell? ⟨AB,i,none⟩:=λi=>World.cell?_of_block (a:=⟨AB,i,none⟩) (lS hAR _ _ _ _ _);unfold five at FA FC;have KD1:=Hs (w13.drew.cell? ⟨AB,0,none⟩=some (.int .i64 m)/\w13.drew.cell? ⟨AB,1,none⟩=some (.int .i64 e)/\w13.drew.cell? ⟨w.heap.size,0,none⟩=some (.int .i64 s.gen)/\w13.drew.cell? ⟨w.heap.size,1,none⟩=some (.slice a s.regs.length cap)/\w13.drew.cell? ⟨w.heap.size,2,none⟩=some (.int .i64 s.typ)/\w13.drew.cell? ⟨w.heap.size,3,none⟩=some (.int .i64 s.holder)/\w13.drew.cell? ⟨w.heap.size,4,none⟩=some (.bool s.stays)) (⟨ch z0,ch z1,ch r0,ch r1,ch r2,ch r3,ch r4⟩);have KD2:=Hs ((((((w13.setCell ⟨w.heap.size,0,none⟩ (.int .i64 s.gen)).setCell ⟨w.heap.size,1,none⟩ (.slice a s.regs.length cap)).setCell ⟨w.heap.size,2,none⟩ (.int .i64 s.typ)).setCell ⟨w.heap.size,3,none⟩ (.int .i64 s.holder)).setCell ⟨w.heap.size,4,none⟩ (.bool s.stays)).drew.cell? ⟨AB,0,none⟩=some (.int .i64 m)/\(((((w13.setCell ⟨w.heap.size,0,none⟩ (.int .i64 s.gen)).setCell ⟨w.heap.size,1,none⟩ (.slice a s.regs.length cap)).setCell ⟨w.heap.size,2,none⟩ (.int .i64 s.typ)).setCell ⟨w.heap.size,3,none⟩ (.int .i64 s.holder)).setCell ⟨w.heap.size,4,none⟩ (.bool s.stays)).drew.cell? ⟨AB,1,none⟩=some (.int .i64 e)/\(((((w13.setCell ⟨w.heap.size,0,none⟩ (.int .i64 s.gen)).setCell ⟨w.heap.size,1,none⟩ (.slice a s.regs.length cap)).setCell ⟨w.heap.size,2,none⟩ (.int .i64 s.typ)).setCell ⟨w.heap.size,3,none⟩ (.int .i64 s.holder)).setCell ⟨w.heap.size,4,none⟩ (.bool s.stays)).drew.cell? ⟨w.heap.size,0,none⟩=some (.int .i64 s.gen)/\(((((w13.setCell ⟨w.heap.size,0,none⟩ (.int .i64 s.gen)).setCell ⟨w.heap.size,1,none⟩ (.slice a s.regs.length cap)).setCell ⟨w.heap.size,2,none⟩ (.int .i64 s.typ)).setCell ⟨w.heap.size,3,none⟩ (.int .i64 s.holder)).setCell ⟨w.heap.size,4,none⟩ (.bool s.stays)).drew.cell? ⟨w.heap.size,1,none⟩=some (.slice a s.regs.length cap)/\(((((w13.setCell ⟨w.heap.size,0,none⟩ (.int .i64 s.gen)).setCell ⟨w.heap.size,1,none⟩ (.slice a s.regs.length cap)).setCell ⟨w.heap.size,2,none⟩ (.int .i64 s.typ)).setCell ⟨w.heap.size,3,none⟩ (.int .i64 s.holder)).setCell ⟨w.heap.size,4,none⟩ (.bool s.stays)).drew.cell? ⟨w.heap.size,2,none⟩=some (.int .i64 s.typ)/\(((((w13.setCell ⟨w.heap.size,0,none⟩ (.int .i64 s.gen)).setCell ⟨w.heap.size,1,none⟩ (.slice a s.regs.length cap)).setCell ⟨w.heap.size,2,none⟩ (.int .i64 s.typ)).setCell ⟨w.heap.size,3,none⟩ (.int .i64 s.holder)).setCell ⟨w.heap.size,4,none⟩ (.bool s.stays)).drew.cell? ⟨w.heap.size,3,none⟩=some (.int .i64 s.holder)/\(((((w13.setCell ⟨w.heap.size,0,none⟩ (.int .i64 s.gen)).setCell ⟨w.heap.size,1,none⟩ (.slice a s.regs.length cap)).setCell ⟨w.heap.size,2,none⟩ (.int .i64 s.typ)).setCell ⟨w.heap.size,3,none⟩ (.int .i64 s.holder)).setCell ⟨w.heap.size,4,none⟩ (.bool s.stays)).drew.cell? ⟨w.heap.size,4,none⟩=some (.bool s.stays)) (⟨ch ((FA 0).trans z0),ch ((FA 1).trans z1),ch FC.1,ch FC.2.1,ch FC.2.2.1,ch FC.2.2.2.1,ch FC.2.2.2.2⟩);clear FA FC
 go_region_held3 (λw'=>w'.cell? ⟨AB,0,none⟩=some (.int .i64 m)/\w'.cell? ⟨AB,1,none⟩=some (.int .i64 e)/\w'.cell? ⟨w.heap.size,0,none⟩=some (.int .i64 s.gen)/\w'.cell? ⟨w.heap.size,1,none⟩=some (.slice a s.regs.length cap)/\w'.cell? ⟨w.heap.size,2,none⟩=some (.int .i64 s.typ)/\w'.cell? ⟨w.heap.size,3,none⟩=some (.int .i64 s.holder)/\w'.cell? ⟨w.heap.size,4,none⟩=some (.bool s.stays))
  (first|(with_reducible exact KD1.out)|(with_reducible exact KD2.out))
  (fail)
 have S14:=Hx (S13.out.five (T:=w.heap.size) (λb o e=>by have:=FR.out b o e; have:=RL.out; omega) (.int .i64 s.gen) (.slice a s.regs.length cap) (.int .i64 s.typ) (.int .i64 s.holder) (.bool s.stays));have B14:=Hx (bW B13.out (Nat.le_refl _) (.int .i64 s.gen) (.slice a s.regs.length cap) (.int .i64 s.typ) (.int .i64 s.holder) (.bool s.stays));unfold five at F5 S14 B14;obtain⟨w14,hw14⟩:=Nm (((((w13.setCell ⟨w.heap.size,0,none⟩ (.int .i64 s.gen)).setCell ⟨w.heap.size,1,none⟩ (.slice a s.regs.length cap)).setCell ⟨w.heap.size,2,none⟩ (.int .i64 s.typ)).setCell ⟨w.heap.size,3,none⟩ (.int .i64 s.holder)).setCell ⟨w.heap.size,4,none⟩ (.bool s.stays));rw[hw14]at F5 S14 B14 ⊢;have S15:=Hx (S14.out.below (Below.refl _ _).drew);have B15:=Hx (B14.out.drew);clear hw14 S14 B14;go_wp2;refine bodyPost_ret (v:=.tuple #[.int .i64 m,.int .i64 e,dh s a cap,.nilIface]) (iH Tryz.results115 _ _ w.heap.size 34 #[.int .i64 s.gen,.slice a s.regs.length cap,.int .i64 s.typ,.int .i64 s.holder,.bool s.stays] _ (.int .i64 m) (.int .i64 e) .nilIface rfl rfl rfl rfl F5 br.1 rfl br.2) rfl ?_;exact⟨a,cap,rfl,S15.out,B15.out,λb o e=>by have:=FR.out b o e; have:=RL.out; omega⟩
def Lk (d:Dk)(p:Nat)(m e:Int)(s:St):Prop:=Place d.now p m e s\/(d.now.getD (2*p) ⟨#[]⟩=fK/\m=0/\e=0/\s=bc)
theorem Lk.num{d:Dk}{p:Nat}{m e:Int}{s:St}(h:Lk d p m e s):0<=m/\m<=1000000000000000:=by
 rcases h with h | ⟨-,rfl,-⟩
 .exact⟨h.k.n0,h.k.n1⟩
 .omega
theorem Bf(S:Nat->Prop)(w:World)(D n:Nat)(d:Dk)(p:Nat)(m e:Int)(s:St)(h:cX S w 152 197 D n d)(ok:d.ok n)(up:d.down=false)(sz:Sz d)(hp:2*p+1<n)(hl:Lk d p m e s)(t:Tabs w) : Calls Tryz.prog 115 #[.pointer (some ⟨D,0,none⟩),.int .i64 (p:Int)] w λx w'=>uV m e s w x w':=by
 rcases hl with hl | ⟨h0,rfl,rfl,rfl⟩
 .exact yP S w D n d p m e s h ok up sz hp hl t
 .refine(yQ S w D n d p h ok up sz hp h0 t).mono ?_;rintro x w' ⟨rfl,hb⟩;exact⟨none,0,rfl,⟨by simp[bc],bE.nil _ _ _⟩,hb,λb o q=>by cases q⟩
theorem KD.looks{n:Nat}{d:Dk}{num ep:Int}{s:St}(h:KD n d num ep s) : ∃m e s',Lk d (1 - iy num) m e s'/\m<num:=by
 rcases h.other with h0 | ⟨m,e,s',lB,hp⟩
 .exact⟨0,0,bc,.inr ⟨h0,rfl,rfl,rfl⟩,by have:=h.p1; omega⟩
 .exact⟨m,e,s',.inl hp,lB⟩
theorem KD.two{n:Nat}{d:Dk}{num ep:Int}{s:St}(h:KD n d num ep s) : (∃m e s',Lk d 0 num ep s/\Lk d 1 m e s'/\m<num)\/∃m e s',Lk d 0 m e s'/\Lk d 1 num ep s/\m<num:=by
 obtain⟨m,e,s',h1,h2⟩:=h.looks;have h3:Lk d (iy num) num ep s:=.inl h.place
 rcases (by have:=vJ num; omega:iy num=0\/iy num=1) with hp | hp
 .rw[hp]at h1 h3;exact .inl ⟨m,e,s',h3,h1,h2⟩
 .rw[hp]at h1 h3;exact .inr ⟨m,e,s',h1,h3,h2⟩
