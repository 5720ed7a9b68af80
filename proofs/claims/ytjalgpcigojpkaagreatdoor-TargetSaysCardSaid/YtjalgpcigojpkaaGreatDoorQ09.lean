import Derived.Test.YtjalgpcigojpkaaGreatDoorQ08
set_option maxRecDepth 99999
set_option maxHeartbeats 99999999
namespace Go.Proofs.YtjalgpcigojpkaaGreatDoor
section
open Go.RowKit
def Dk.write(n:Nat)(d:Dk)(p:Int)(s:ByteArray):Dk :=
 if p<0\/n<=p\/64<s.size then d
 else if d.steps then { d.step with now:=d.now.set p.toNat (bJ s),wait:=d.wait ++ [(p.toNat,bJ s)] } else d.step
def Dk.writeF(n:Nat)(d:Dk)(p:Int)(s:ByteArray):Int :=
 if p<0\/n<=p\/64<s.size then 1 else if d.steps then 0 else 10
theorem Dk.step_lists(d:Dk):d.step.kept=d.kept/\d.step.now=d.now/\d.step.wait=d.wait:=by
 unfold Dk.step; split
 .exact⟨rfl,rfl,rfl⟩
 .split<;>exact⟨rfl,rfl,rfl⟩
theorem Dk.write_ok{n:Nat}{d:Dk}(h:d.ok n)(p:Int)(s:ByteArray):(d.write n p s).ok n:=by
 unfold Dk.write
 split
 .exact h
 .rename_i hp
  split
  .have k:=Dk.step_ok h;refine⟨k.n40,k.kl,by simp[h.nl],?_,k.fu,k.fm⟩;intro r hr;simp only[List.mem_append,List.mem_singleton]at hr
   rcases hr with hr | rfl
   .exact h.wl r hr
   .show p.toNat<n; omega
  .exact Dk.step_ok h
theorem jV.setN{w:World}{T Tt:TypeId}{D K N ck cn:Nat}{wv:Value}{n:Nat}{d:Dk}(h:jV w T Tt D K N ck cn wv n d)(k:Nat)(s:ByteArray) : jV (w.setCell ⟨N,k,none⟩ (.string s)) T Tt D K N ck cn wv n { d with now:=d.now.set k s }:=by
 have o:∀b,b≠N->(w.setCell ⟨N,k,none⟩ (.string s)).heap[b]?=w.heap[b]?:=λb hb=>Below.heap_setCell _ _ _ _ hb;exact⟨(o D (Ne.symm h.nd)).trans h.blk,h.kept.move (o K h.kn),h.now.set k s,il h.wait (λb hb=>o b (λe=>h.wn (e▸hb))),h.kd,h.nd,h.kn,h.wd,h.wk,h.wn,h.nc⟩
theorem jV.setW{w w1:World}{T Tt:TypeId}{D K N ck cn:Nat}{wv v:Value}{n m:Nat}{d:Dk}(h:jV w T Tt D K N ck cn wv n d){l:List (Nat × ByteArray)}(hm:m=l.length)(ec:w1.ownsRow 0 Tt 2 v m (fC l))
  (hk:ac (λb=>wv.ownBlock=some b) w w1) (hv:∀b,v.ownBlock=some b->wv.ownBlock=some b\/w.heap.size<=b) :
  jV (w1.setCell ⟨D,2,none⟩ v) T Tt D K N ck cn v n { d with wait:=l }:=by
 subst hm;have o:∀b,b≠D->(w1.setCell ⟨D,2,none⟩ v).heap[b]?=w1.heap[b]?:=λb hb=>Below.heap_setCell _ _ _ _ hb;have hD:=hk.block D h.wd h.lt
 have vd:v.ownBlock≠some D:=λe=>by rcases hv D e with e | e; exact h.wd e; have:=h.lt; omega
 have vk:v.ownBlock≠some K:=λe=>by rcases hv K e with e | e; exact h.wk e; have:=h.kept.lt; omega
 have vn:v.ownBlock≠some N:=λe=>by rcases hv N e with e | e; exact h.wn e; have:=h.now.lt; omega
 exact⟨block_setCell (hD.trans h.blk) _,h.kept.move ((o K h.kd).trans (hk.block K h.wk h.kept.lt)),h.now.move ((o N h.nd).trans (hk.block N h.wn h.now.lt)),
  il ec (λb hb=>o b (λe=>vd (e▸hb))),h.kd,h.nd,h.kn,vd,vk,vn,h.nc⟩
theorem BJ:(Tryz.prog.info? 197).map (λi=>(i.zero,i.size,i.bytes))=some (some (.agg #[.int .i64 0,.string ByteArray.empty]),2,24):=by kernel_rfl
theorem EA{S:Nat->Prop}{w:World}{T Tt:TypeId}{D n:Nat}{d d':Dk}{Q:Prop}(h:cX S w T Tt D n d/\Q)(e:d=d'):cX S w T Tt D n d'/\Q:=e▸h
theorem wE{S:Nat->Prop}{w w5 w6:World}{T Tt:TypeId}{D K N ck cn n k g6 cap6:Nat}{wv:Value}{d5:Dk}{F:ByteArray}{o:Obj}(r:jV w5 T Tt D K N ck cn wv n d5)(k5:ac S w w5)(s1:S D)(s2:S K)(s3:S N)(s4:∀k,wv.ownBlock=some k->S k)(ec:w6.ownsRow 0 Tt 2 (.slice (some ⟨g6,0,none⟩) (d5.wait.length+1) cap6) (d5.wait.length+1) (fC d5.wait ++ [.int .i64 k,.string F]))(hg:(w5.drew.alloc o).grownBy w6 wv.ownBlock)(Iw:wv.ownBlock=some g6\/g6=(w5.drew.alloc o).heap.size)(lB:g6<w6.heap.size)(w':World)(hw:w'=w6.setCell ⟨D,2,none⟩ (.slice (some ⟨g6,0,none⟩) (d5.wait.length+1) cap6)) : cX (grow S w w') w' T Tt D n { d5 with wait:=d5.wait ++ [(k,F)] }/\ac S w w':=by
 subst hw
 have e:fC d5.wait ++ [.int .i64 k,.string F]=fC (d5.wait ++ [(k,F)]):=by rw[pP]; rfl
 rw[e]at ec
 have k6:ac (λb=>wv.ownBlock=some b) w5 w6:=⟨hg.os,hg.tape,hg.output,Nat.le_trans (by simp) hg.size,λb hb hl=>(hg.block b (by simp; omega) (Ne.symm hb)).trans (Below.heap_alloc _ _ _ hl)⟩
 have kk:ac S w (w6.setCell ⟨D,2,none⟩ (.slice (some ⟨g6,0,none⟩) (d5.wait.length+1) cap6)):=(k5.trans (k6.mono s4)).setCell (p:=⟨D,2,none⟩) s1 _;refine⟨⟨K,N,ck,cn,_,r.setW (by simp) ec k6 ?_,.inl s1,.inl s2,.inl s3,?_⟩,kk⟩
 .intro b hb
  obtain rfl:g6=b:=by simpa[Value.ownBlock] using hb
  rcases Iw with h | h
  .exact .inl h
  .right; rw[h]; simp
 .intro b hb
  obtain rfl:g6=b:=by simpa[Value.ownBlock] using hb
  rcases Iw with h | h
  .exact .inl (s4 _ h)
  .right
   refine⟨?_,by simpa[World.setCell] using lB⟩;rw[h];have:=k5.size;simp;omega
theorem iU(S:Nat->Prop)(w:World)(D n:Nat)(d:Dk)(p:Int)(s:ByteArray)(h:cX S w 152 197 D n d)(ok:d.ok n)(JW:d.wait.length<=1000) : Calls Tryz.prog 77 #[.pointer (some ⟨D,0,none⟩),.int .i64 p,.string s] w λe w'=>e=.returned (bg (d.writeF n p s))/\cX (grow S w w') w' 152 197 D n (d.write n p s)/\ac S w w':=by
 obtain⟨K,N,ck,cn,wv,r,s1,s2,s3,s4⟩:=h;have R:=Hx r;obtain⟨⟨c0,c1,c2,c3,c4⟩,f0,f1,f2,f3,f4⟩:=r.cells;have OK:=Hx ok;have S1:=Hx s1;have S2:=Hx s2;have S3:=Hx s3;have S4:=Hx s4
 have same:∀(w':World),Below w.heap.size w w'->cX (grow S w w') w' 152 197 D n d:=λw' b=>⟨K,N,ck,cn,wv,R.out.below b,.inl S1.out,.inl S2.out,.inl S3.out,λk hk=>.inl (S4.out k hk)⟩
 have SAME:=Hx same;clear r s1 s2 s3 s4 same ok;by_cases h1:p<0
 .have e1:d.writeF n p s=1:=if_pos (.inl h1);have e2:d.write n p s=d:=if_pos (.inl h1);rw[e1,e2];clear e1 e2;go_enter Tryz.func77,Tryz.ntmps77
  go_wp2;go_ret;exact⟨rfl,SAME.out _ (Below.refl _ _),ac.refl _ _⟩
 by_cases h2:(n:Int)<=p
 .have e1:d.writeF n p s=1:=if_pos (.inr (.inl h2));have e2:d.write n p s=d:=if_pos (.inr (.inl h2));rw[e1,e2];clear e1 e2;go_enter Tryz.func77,Tryz.ntmps77
  go_wp2;go_ret;exact⟨rfl,SAME.out _ (Below.refl _ _),ac.refl _ _⟩
 by_cases h3:(64:Int)<s.size
 .have e1:d.writeF n p s=1:=if_pos (.inr (.inr (by omega)));have e2:d.write n p s=d:=if_pos (.inr (.inr (by omega)));rw[e1,e2];clear e1 e2;go_enter Tryz.func77,Tryz.ntmps77
  go_wp2;go_ret;exact⟨rfl,SAME.out _ (Below.refl _ _),ac.refl _ _⟩
 have NK:¬ (p<0\/n<=p\/64<s.size):=by omega
 have e1:d.writeF n p s=if d.steps then 0 else 10:=if_neg NK
 have e2:d.write n p s=if d.steps then { d.step with now:=d.now.set p.toNat (bJ s),wait:=d.wait ++ [(p.toNat,bJ s)] } else d.step:=if_neg NK
 rw[e1,e2];clear e1 e2 NK;have HSZ:=Hx (show s.size<=64 by omega)
 obtain⟨k,rfl⟩:∃k:Nat,p=k:=⟨p.toNat,by omega⟩
 have HK:=Hx (show k<n by omega);have STEP:=Hx (tJ w D K N ck cn n wv d R.out ⟨OK.out.fu,OK.out.fm⟩);obtain⟨W,hW⟩:=Nm d.wait.length;have HWL:=Hx (show W<=1000 by omega);have HW:=Hx hW
 have q1:decide ((k:Int)<0)=false:=by rw[decide_eq_false_iff_not]; omega
 have q2:decide (n<=k)=false:=by rw[decide_eq_false_iff_not]; omega
 have q3:decide ((64:Int)<(s.size:Int))=false:=by rw[decide_eq_false_iff_not]; omega
 have hkn:(k:Int)<(n:Int):=by omega
 have LH:(0:Int)<=(k:Int):=by omega
 clear h1 h2 h3 JW hW;obtain⟨B,hB⟩:=Nm d.steps;rw[hB]at STEP ⊢;clear hB;go_enter Tryz.func77,Tryz.ntmps77
 go_wp2_with fail;refine STEP.out.mono ?_;clear STEP c0 c1 c2 c3 c4 f0 f1 f2 f3 f4;rintro e w1 ⟨he,r1,k1⟩;have R1:=Hx r1;have K1:=Hx k1;cases B
 .obtain rfl:e=.returned (.iface 108 (.int .i64 10)):=he;clear r1 k1;go_wp2;go_ret;exact⟨rfl,⟨K,N,ck,cn,wv,R1.out,.inl S1.out,.inl S2.out,.inl S3.out,λb hb=>.inl (S4.out b hb)⟩,K1.out.mono (λb hb=>hb▸S1.out)⟩
 obtain rfl:e=.returned .nilIface:=he;have DW:=Hs ({ d.step with now:=d.step.now.set k (bJ s),wait:=d.step.wait ++ [(k,bJ s)] }=(if true=true then { d.step with now:=d.now.set (k:Int).toNat (bJ s),wait:=d.wait ++ [((k:Int).toNat,bJ s)] } else d.step)) (by rw[if_pos rfl,(Dk.step_lists d).2.1,(Dk.step_lists d).2.2]; rfl);obtain⟨⟨-,c1,-,-,-⟩,-⟩:=r1.cells;obtain⟨kn1,fn1⟩:=r1.now.cell (i:=k) (by rw[(Dk.step_lists d).2.1,OK.out.nl]; exact HK.out);have hnlt:=r1.now.lt;have FULL:=Hx (λw=>uH s w HSZ.out);have KEEP:=Hs (∀w',ac (·=N) w1 w'->ac (·=N) w1 w'/\w'.cell? ⟨D,1,none⟩=some (.slice (some ⟨N,0,none⟩) n cn)) (λw' kp=>⟨kp,(kp.cell (Ne.symm R1.out.nd) R1.out.lt).trans c1⟩);have KEEP2:=Hs (∀w',ac (·=N) w1 w'->ac (·=N) w1 (w'.setCell ⟨N,k,none⟩ (.string (bJ s)))/\(w'.setCell ⟨N,k,none⟩ (.string (bJ s))).cell? ⟨D,1,none⟩=some (.slice (some ⟨N,0,none⟩) n cn)) (λw' kp=>KEEP.out _ (kp.setCell rfl _));clear r1 k1;go_wp2
 go_region_held3 (λw'=>ac (·=N) w1 w'/\w'.cell? ⟨D,1,none⟩=some (.slice (some ⟨N,0,none⟩) n cn))
  (first|(with_reducible refine KEEP2.out _ ?_; exact And.left (by assumption))|(refine KEEP.out _ ?_; first | exact(ac.refl _ _).drew | exact ac.trans (And.left (by assumption)) (ac.of_below (by assumption))))
  (first|((with_reducible refine(FULL.out _).mono ?_); rintro e w3 ⟨rfl,b3⟩; have kn3:=(b3.cell (p:=⟨N,k,none⟩) hnlt).trans kn1; have fn3:=(b3.frozen (p:=⟨N,k,none⟩) hnlt).trans fn1))
 have b3':Below w1.heap.size w1 w3:=(Below.refl _ w1).drew.trans (by assumption);obtain⟨w5,Jc⟩:=Nn (w3.setCell ⟨N,k,none⟩ (.string (bJ s)));rw[<-Jc];have kk:ac (·=N) w1 w5:=Jc▸(ac.of_below (S:=(·=N)) b3').setCell (p:=⟨N,k,none⟩) rfl _;have K5:=Hx ((K1.out.mono (λb hb=>hb▸S1.out)).trans (kk.mono (λb hb=>hb▸S3.out)));have r5:jV w5 152 197 D K N ck cn wv n { d.step with now:=d.step.now.set k (bJ s) }:=Jc▸((R1.out.below b3').setN k (bJ s));clear Jc kk b3' K1 R1 KEEP KEEP2 FULL kn1 fn1 hnlt c1;clear b3 kn3 fn3;obtain⟨⟨-,c1,c2,-,-⟩,-,-,f2,-⟩:=r5.cells;obtain⟨kn5,-⟩:=r5.now.cell (i:=k) (by rw[List.length_set,(Dk.step_lists d).2.1,OK.out.nl]; exact HK.out);simp only[List.getElem_set_self]at kn5;have R5:=Hx r5;clear r5;obtain⟨i0,hi,Ij,Ii,Im⟩:=info_parts BJ
 have AT6:=Hs (∀(o:Obj) (w6:World),(w5.drew.alloc o).grownBy w6 wv.ownBlock->w6.cell? ⟨D,2,none⟩=some wv/\w6.frozen? ⟨D,2,none⟩=false) (λo w6 hg=>by
  have hb:w6.heap[D]?=w5.heap[D]?:=(hg.block D (by have:=R5.out.lt; simp; omega) (Ne.symm R5.out.wd)).trans (Below.heap_alloc _ _ _ R5.out.lt)
  simp[World.cell?,World.frozen?,hb,R5.out.blk])
 have a2:∀o,(w5.alloc o).cell? ⟨D,2,none⟩=some wv:=λo=>(World.cell?_alloc_some _ _ _ (by rw[c2]; rfl)).trans c2;have a1:∀o,(w5.alloc o).cell? ⟨D,1,none⟩=some (.slice (some ⟨N,0,none⟩) n cn):=λo=>(World.cell?_alloc_some _ _ _ (by rw[c1]; rfl)).trans c1;have ak:∀o,(w5.alloc o).cell? ⟨N,k,none⟩=some (.string (bJ s)):=λo=>(World.cell?_alloc_some _ _ _ (by rw[kn5]; rfl)).trans kn5;go_wp2
 go_region_law (first|(refine step_append_lies _ (by rfl) _ _ _ (by rfl) 0 197 i0 _ 2 24 Tryz.underlying150 hi Ij Ii Im rfl (by omega) wv d.step.wait.length (fC d.step.wait) (by rfl) (World.ownsRow.alloc R5.out.wait _) ⟨w5.heap.size,0,none⟩ 1 1 [.int .i64 k,.string (bJ s)] (by rfl) (by rfl) (World.news_of_block (heap_alloc_new _ _)) (u7 [(k,bJ s)]) (by omega) (by rw[(Dk.step_lists d).2.2,HW.out]; have:=HWL.out; unfold maxLen; omega) (by rw[(Dk.step_lists d).2.2,HW.out]; have:=HWL.out; omega) (by omega) _ rfl ?_; intro g6 cap6 w6 IH Ic Jl JG; have kd6:=(AT6.out _ _ Ic).1; have fd6:=(AT6.out _ _ Ic).2))
 all_goals
  have FIN:=Hx (wE R5.out K5.out S1.out S2.out S3.out S4.out IH Ic Jl JG _ rfl);clear IH Ic Jl JG a1 a2 ak;go_wp2;go_ret;exact⟨rfl,EA FIN.out DW.out⟩
def Dk.readF(n:Nat)(d:Dk)(p:Int):Int:=if d.down then 10 else if p<0\/n<=p then 1 else 0
def Dk.readS(n:Nat)(d:Dk)(p:Int):ByteArray:=if d.down then ⟨#[]⟩ else if p<0\/n<=p then ⟨#[]⟩ else d.now.getD p.toNat ⟨#[]⟩
theorem zt(S:Nat->Prop)(w:World)(D n:Nat)(d:Dk)(p:Int)(h:cX S w 152 197 D n d)(ok:d.ok n) : Calls Tryz.prog 139 #[.pointer (some ⟨D,0,none⟩),.int .i64 p] w λe w'=>e=.returned (.tuple #[.string (d.readS n p),bg (d.readF n p)])/\w'=w:=by
 obtain⟨K,N,ck,cn,wv,r,-⟩:=h;have R:=Hx r;obtain⟨⟨c0,c1,c2,c3,c4⟩,f0,f1,f2,f3,f4⟩:=r.cells;have NL:=Hx ok.nl;clear r ok;obtain⟨kept,now,wait,f,b⟩:=d;dsimp only at c3 c4;cases b
 .by_cases h1:p<0
  .rw[show Dk.readF n ⟨kept,now,wait,f,false⟩ p=1 from(if_neg (by simp)).trans (if_pos (.inl h1)),show Dk.readS n ⟨kept,now,wait,f,false⟩ p=⟨#[]⟩ from(if_neg (by simp)).trans (if_pos (.inl h1))];go_enter Tryz.func139,Tryz.ntmps139
   go_wp2;exact bodyPost_ret (v:=.tuple #[.string ⟨#[]⟩,.iface 108 (.int .i64 1)]) (by simp[results,Tryz.results139,go_sem]) rfl ⟨rfl,rfl⟩
  by_cases h2:(n:Int)<=p
  .rw[show Dk.readF n ⟨kept,now,wait,f,false⟩ p=1 from(if_neg (by simp)).trans (if_pos (.inr h2)),show Dk.readS n ⟨kept,now,wait,f,false⟩ p=⟨#[]⟩ from(if_neg (by simp)).trans (if_pos (.inr h2))];go_enter Tryz.func139,Tryz.ntmps139
   go_wp2;exact bodyPost_ret (v:=.tuple #[.string ⟨#[]⟩,.iface 108 (.int .i64 1)]) (by simp[results,Tryz.results139,go_sem]) rfl ⟨rfl,rfl⟩
  obtain⟨k,rfl⟩:∃k:Nat,p=k:=⟨p.toNat,by omega⟩
  have hk:k<now.length:=by have:now.length=n:=NL.out; omega
  obtain⟨X,hX⟩:=Nm (now[k]);have kn:w.cell? ⟨N,k,none⟩=some (.string X):=hX▸(R.out.now.cell (i:=k) hk).1;rw[show Dk.readF n ⟨kept,now,wait,f,false⟩ k=0 from(if_neg (by simp)).trans (if_neg (by omega)),show Dk.readS n ⟨kept,now,wait,f,false⟩ k=X from(if_neg (by simp)).trans ((if_neg (by omega)).trans (by rw[<-hX]; simp[hk]))]
  have q1:decide ((k:Int)<0)=false:=by rw[decide_eq_false_iff_not]; omega
  have q2:decide (n<=k)=false:=by rw[decide_eq_false_iff_not]; omega
  have hkn:(k:Int)<(n:Int):=by omega
  have LH:(0:Int)<=(k:Int):=by omega
  clear h1 h2 hX hk;go_enter Tryz.func139,Tryz.ntmps139
  go_wp2;exact bodyPost_ret (v:=.tuple #[.string X,.nilIface]) (by simp[results,Tryz.results139,go_sem]) rfl ⟨rfl,rfl⟩
 .go_enter Tryz.func139,Tryz.ntmps139
  go_wp2;exact bodyPost_ret (v:=.tuple #[.string ⟨#[]⟩,.iface 108 (.int .i64 10)]) (by simp[results,Tryz.results139,go_sem]) rfl ⟨rfl,rfl⟩
theorem lV(S:Nat->Prop)(w:World)(D n:Nat)(d:Dk)(h:cX S w 152 197 D n d) : Calls Tryz.prog 76 #[.pointer (some ⟨D,0,none⟩)] w λe w'=>e=.returned (.int .i64 n)/\w'=w:=by
 obtain⟨K,N,ck,cn,wv,r,-⟩:=h;obtain⟨⟨c0,c1,c2,c3,c4⟩,f0,f1,f2,f3,f4⟩:=r.cells;clear r;go_enter Tryz.func76,Tryz.ntmps76
 go_wp2;go_ret;exact⟨rfl,rfl⟩
theorem zz(S:Nat->Prop)(w:World)(D n:Nat)(d:Dk)(h:cX S w 152 197 D n d) : Calls Tryz.prog 114 #[.pointer (some ⟨D,0,none⟩)] w λe w'=>e=.returned (.bool d.down)/\w'=w:=by
 obtain⟨K,N,ck,cn,wv,r,-⟩:=h;obtain⟨⟨c0,c1,c2,c3,c4⟩,f0,f1,f2,f3,f4⟩:=r.cells;clear r;go_enter Tryz.func114,Tryz.ntmps114
 go_wp2;go_ret;exact⟨rfl,rfl⟩
theorem rQ{P:Program}{id:Nat}{Q:Exit->Act->World->Prop}{a:Act}{w:World}{l:List Oper}(n:Nat)(hm:P.follows .mixedOrders=true)(hB:Region.lexTailB .any l.toArray n=true)(h:∀wd,Below w.heap.size w wd->wd.heap=w.heap->wpStill P l.toArray wd (λa'=>wpList P l.toArray Q (l.drop n) a' wd) (l.take n) a):(Code.region id l.toArray true).wp P Q a w :=
 wp_region_still_tail n hm hB (h w.drew (Below.refl _ _).drew rfl)
def Dk.flush(d:Dk):Dk:=if d.steps then { d.step with kept:=d.now,wait:=[] } else d.step
theorem na(b j:Nat):(⟨b,0,none⟩:Addr).add j=⟨b,j,none⟩:=by unfold Addr.add; split<;>simp_all
theorem eY.src{w:World}{g:Nat}{l:List ByteArray}(h:eY w g l):∀j v,(strs l)[j]?=some v->w.cell? ((⟨g,0,none⟩:Addr).add j)=some v:=by
 intro j v hj;rw[na]
 have hl:j<l.length:=by have:=(List.getElem?_eq_some_iff.1 hj).1;simpa[strs] using this
 rw[(h.cell hl).1];simpa[strs,hl] using hj
theorem jc(l:List ByteArray):(strs l).length=l.length:=by simp[strs]
theorem zG{w:World}{K N n ck cn:Nat}{l m:List ByteArray}(hk:eY w K l)(hn:eY w N m)(h1:l.length=n)(h2:m.length=n)(ty:TypeId) : ∃cur,eY (w.setRow K cur) K m/\(Builtin.copy_ #[146,146] ty #[.slice (some ⟨K,0,none⟩) n ck,.slice (some ⟨N,0,none⟩) n cn]).run Tryz.prog w=.ok (goInt n) (w.setRow K cur):=by
 have hk':=hk;obtain⟨cur,hc,hs,-⟩:=hk;refine⟨_,eY.put hk' cur hc,?_⟩
 have hz:(Tryz.prog.info? 9).map (·.size)=some 1:=by kernel_rfl
 have:=run_copy_row (P:=Tryz.prog) w 146 146 ty 9 K 0 n ck ⟨N,0,none⟩ n cn cur 9 (strs m) Tryz.underlying146 hz hc (by rw[jc,h2]; exact(Nat.min_self n).symm) hn.src (by rw[jc]; omega) (oj m);rw[show goInt (strs m).length=goInt n from by rw[jc,h2]]at this;exact this
theorem jV.setK{w:World}{T Tt:TypeId}{D K N ck cn:Nat}{wv:Value}{n:Nat}{d:Dk}(h:jV w T Tt D K N ck cn wv n d){cur:Array Value}{l:List ByteArray}(hr:eY (w.setRow K cur) K l) : jV (w.setRow K cur) T Tt D K N ck cn wv n { d with kept:=l }:=by
 have o:∀b,b≠K->(w.setRow K cur).heap[b]?=w.heap[b]?:=λb hb=>setRow_other _ _ _ _ hb;exact⟨(o D (Ne.symm h.kd)).trans h.blk,hr,h.now.move (o N (Ne.symm h.kn)),il h.wait (λb hb=>o b (λe=>h.wk (e▸hb))),h.kd,h.nd,h.kn,h.wd,h.wk,h.wn,h.nc⟩
theorem jV.setWn{w:World}{T Tt:TypeId}{D K N ck cn:Nat}{wv:Value}{n:Nat}{d:Dk}(h:jV w T Tt D K N ck cn wv n d):jV (w.setCell ⟨D,2,none⟩ (.slice none 0 0)) T Tt D K N ck cn (.slice none 0 0) n { d with wait:=[] } :=
 h.setW (l:=[]) rfl (World.ownsRow_nil w 0 Tt 2) (ac.refl _ _) (λb hb=>by cases hb)
theorem Hu{S:Nat->Prop}{a w:World}(h:ac S a w){g:Nat}(hg:S g)(cs:Array Value):ac S a (w.setRow g cs) :=
 h.trans ⟨rfl,rfl,rfl,by simp,λk hk _=>setRow_other _ _ _ _ (λe=>hk (e▸hg))⟩
theorem iW(S:Nat->Prop)(w:World)(D n:Nat)(d:Dk)(h:cX S w 152 197 D n d)(ok:d.ok n) : Calls Tryz.prog 78 #[.pointer (some ⟨D,0,none⟩)] w λe w'=>e=.returned (bg (if d.steps then 0 else 10))/\cX S w' 152 197 D n d.flush/\ac S w w':=by
 obtain⟨K,N,ck,cn,wv,r,s1,s2,s3,s4⟩:=h;have OK:=Hx ok;have S1:=Hx s1;have S2:=Hx s2;have S3:=Hx s3;have S4:=Hx s4;have STEP:=Hx (tJ w D K N ck cn n wv d r ⟨ok.fu,ok.fm⟩);clear r s1 s2 s3 s4 ok;unfold Dk.flush;obtain⟨B,hB⟩:=Nm d.steps;rw[hB]at STEP ⊢;clear hB;go_enter Tryz.func78,Tryz.ntmps78
 go_wp2_with fail;refine STEP.out.mono ?_;clear STEP;rintro e w1 ⟨he,r1,k1⟩;have R1:=Hx r1;have K1:=Hx (k1.mono (T:=S) (λb hb=>hb▸S1.out));cases B
 .obtain rfl:e=.returned (.iface 108 (.int .i64 10)):=he;clear r1 k1;go_wp2;go_ret;exact⟨rfl,⟨K,N,ck,cn,wv,R1.out,S1.out,S2.out,S3.out,S4.out⟩,K1.out⟩
 obtain rfl:e=.returned .nilIface:=he;clear r1 k1;go_upto_region 3 with fail;refine rQ 8 (by kernel_rfl) (by kernel_rfl) ?_;intro wd IB hwh;have r2:=R1.out.below IB;obtain⟨⟨c0,c1,-,-,-⟩,-⟩:=r2.cells;have R2:=Hx r2;have K2:=Hx (K1.out.trans (ac.of_below IB));clear r2 IB hwh K1 R1;simp only[List.take_succ_cons,List.take_zero,List.drop_succ_cons,List.drop_zero]
 repeat still_step
 refine wpStill_nil ?_;obtain⟨cur,hcur,hr⟩:=zG (n:=n) (ck:=ck) (cn:=cn) R2.out.kept R2.out.now (by rw[(Dk.step_lists d).1]; exact OK.out.kl) (by rw[(Dk.step_lists d).2.1]; exact OK.out.nl) 3;have R3:=Hx (R2.out.setK hcur);have K3:=Hx (Hu K2.out (g:=K) S2.out cur);clear hcur;obtain⟨⟨-,-,g2,-,-⟩,-,-,h2,-⟩:=R3.out.cells;have R4:=Hx R3.out.setWn;have K4:=Hx (K3.out.setCell (p:=⟨D,2,none⟩) S1.out (.slice none 0 0));clear c0 c1 R3 K3 R2 K2;go_wp2_with (at_builtin; refine Lib.wpList_copy_run _ rfl _ _ 146 146 rfl _ _ rfl rfl hr ?_);go_ret;exact⟨rfl,⟨K,N,ck,cn,.slice none 0 0,by rw[<-(Dk.step_lists d).2.1]; exact R4.out,S1.out,S2.out,S3.out,λb hb=>by cases hb⟩,K4.out⟩
def G4 (keep:Int)(k:Nat):Bool:=bits BinOp.and IntKind.u64 (keep / 2 ^ (k % 64)) 1 == 1
def Dk.restTo(keep:Int)(d:Dk):Nat->List ByteArray
 | 0=>d.kept
 | k+1=>if G4 keep k then(d.restTo keep k).set (d.wait.getD k (0,⟨#[]⟩)).1 (d.wait.getD k (0,⟨#[]⟩)).2 else d.restTo keep k
def Dk.restart(keep:Int)(d:Dk):Dk:=⟨d.restTo keep d.wait.length,d.restTo keep d.wait.length,[],-1,false⟩
end
section
open Go.RowKit Go.Lib
structure Kp where
 d:Dk
 num:Int
 ep:Int
 s:St
def fJ(n e:Int)(s:St):Bs:=107 :: 32 :: (itoa n ++ 32 :: (itoa e ++ 32 :: (itoa (aP s).length ++ 32 :: aP s)))
def kA (n e:Int)(s:St):ByteArray:=aQ ((fJ n e s).take 64)
def kB (n e:Int)(s:St):ByteArray:=aQ ((fJ n e s).drop 64)
def fK:ByteArray:=bJ ⟨#[]⟩
structure l5 (n e:Int) (s:St):Prop where
 n0:0<=n
 n1:n<=1000000000000000
 e0:1<=e
 e1:e<=1000000
 g:Good s
theorem l5.len{n e:Int}{s:St}(h:l5 n e s):(fJ n e s).length<=100:=by have h1:=fp 15 n h.n0 (by have:=h.n1; omega);have h2:=fp 6 e (by have:=h.e0; omega) (by have:=h.e1; omega);have h3:=h.g.text_len;have h4:=fp 1 ((aP s).length:Int) (by omega) (by omega);unfold fJ;simp only[List.length_cons,List.length_append];omega
theorem l5.kA_size{n e:Int}{s:St}:(kA n e s).size<=64:=by unfold kA; rw[bp,List.length_take]; omega
theorem l5.kB_size{n e:Int}{s:St}(h:l5 n e s):(kB n e s).size<=64:=by have:=h.len; unfold kB; rw[bp,List.length_drop]; omega
theorem xW(n:Nat):i8 n=aQ (List.replicate n 0):=by apply ByteArray.ext;simp[i8,aQ,strOfNums]
theorem pp{l:Bs}:bJ (aQ l)=aQ (l ++ List.replicate (64 - l.length) 0):=by unfold bJ;rw[xW,bp,ez]
theorem tq(t:Bs)(h:t.length<=128):bJ (aQ (t.take 64)) ++ bJ (aQ (t.drop 64))=aQ (t ++ List.replicate (128 - t.length) 0):=by
 rw[pp,pp,ez];congr 1;rw[List.length_take,List.length_drop];by_cases h1:t.length<=64
 .rw[List.take_of_length_le h1,List.drop_of_length_le h1,List.nil_append,List.append_assoc,List.replicate_append_replicate];congr 2;omega
 .rw[show 64 - min 64 t.length=0 by omega,List.replicate_zero,List.append_nil,<-List.append_assoc,List.take_append_drop];congr 2;omega
theorem rH(n e:Int)(s:St)(z:Bs):splitK [32] 0 4 (fJ n e s ++ z)=[[107],itoa n,itoa e,itoa (aP s).length,aP s ++ z]:=by
 have e1:fJ n e s ++ z=[107] ++ 32 :: (itoa n ++ 32 :: (itoa e ++ 32 :: (itoa (aP s).length ++ 32 :: (aP s ++ z)))):=by simp[fJ]
 rw[e1,fj 32 3 _ _ (by decide),fj 32 2 _ _ (dO _),fj 32 1 _ _ (dO _),fj 32 0 _ _ (dO _)];rfl
theorem qa(c b:UInt8)(l:Bs)(h:c≠b):index (b :: l) [c]=-1\/1<=index (b :: l) [c]:=by
 rw[index]
 have:([c]:Bs).isPrefixOf (b :: l)=false:=by simp[List.isPrefixOf,h]
 rw[this];have:=index_ge l [c];simp only[Bool.false_eq_true,if_false]
 split
 .exact .inl rfl
 .rename_i h2
  right
  simp only[beq_iff_eq]at h2;omega
theorem vu(k:Nat)(r:Bs):∃a l,splitK [32] 0 k (0 :: r)=(0 :: a) :: l:=by
 cases k with
 | zero=>exact⟨r,[],rfl⟩
 | succ k =>
  unfold splitK
  rcases qa 32 0 r (by decide) with h | h
  .rw[h]; exact⟨r,[],rfl⟩
  .rw[if_neg (by simp; omega)]
   obtain⟨m,hm⟩:∃m:Nat,(index (0 :: r) [32]).toNat=m+1:=⟨(index (0 :: r) [32]).toNat - 1,by omega⟩
   rw[hm];exact⟨_,_,rfl⟩
structure Place (now:List ByteArray) (p:Nat) (n e:Int) (s:St):Prop where
 a:now.getD (2*p) ⟨#[]⟩=bJ (kA n e s)
 b:now.getD (2*p+1) ⟨#[]⟩=bJ (kB n e s)
 k:l5 n e s
def pO(now:List ByteArray)(q:Nat)(m:Int):Prop:=now.getD (2*q) ⟨#[]⟩=fK\/∃n e s,n<m/\Place now q n e s
def iy (n:Int):Nat:=(n % 2).toNat
theorem vJ(n:Int):iy n<2:=by unfold iy; omega
theorem AV(n:Int):iy (n+1)=1 - iy n:=by unfold iy; omega
structure KD (n:Nat) (d:Dk) (num ep:Int) (s:St):Prop where
 ok:d.ok n
 n6:6<=n
 up:d.down=false
 wait:d.wait=[]
 same:d.kept=d.now
 p1:1<=num
 place:Place d.now (iy num) num ep s
 other:pO d.now (1 - iy num) num
theorem getD_set_ne{l:List ByteArray}{i j:Nat}(h:i≠j)(x:ByteArray):(l.set i x).getD j ⟨#[]⟩=l.getD j ⟨#[]⟩:=by simp[List.getD_eq_getElem?_getD,List.getElem?_set_ne h]
theorem dQ{l:List ByteArray}{i:Nat}(h:i<l.length)(x:ByteArray):(l.set i x).getD i ⟨#[]⟩=x:=by simp[List.getD_eq_getElem?_getD,h]
theorem Place.set{now:List ByteArray}{p:Nat}{n e:Int}{s:St}(h:Place now p n e s){i:Nat}(h1:i≠2*p)(h2:i≠2*p+1)(x:ByteArray):Place (now.set i x) p n e s :=
 ⟨by rw[getD_set_ne h1,h.a],by rw[getD_set_ne h2,h.b],h.k⟩
def gA (n:Nat)(d:Dk)(a:Nat)(A B:ByteArray):Dk × Bool :=
 let d1:=d.write n ((2*a:Nat):Int) ⟨#[]⟩
 if d.steps=false then(d1,false) else
 let d2:=d1.flush
 if d1.steps=false then(d2,false) else
 let d3:=d2.write n ((2*a+1:Nat):Int) B
 if d2.steps=false then(d3,false) else
 let d4:=d3.flush
 if d3.steps=false then(d4,false) else
 let d5:=d4.write n ((2*a:Nat):Int) A
 if d4.steps=false then(d5,false) else
 let d6:=d5.flush
 if d5.steps=false then(d6,false) else(d6,true)
def Kp.lay(n:Nat)(k:Kp)(ep:Int)(s:St):Kp × Int :=
 let r:=gA n k.d (iy (k.num+1)) (kA (k.num+1) ep s) (kB (k.num+1) ep s)
 if r.2 then(⟨r.1,k.num+1,ep,s⟩,0) else({ k with d:=r.1 },10)
def Kp.keep(n:Nat)(k:Kp)(ep:Int)(s:St):Kp × Int :=
 if ep<1\/1000000<ep then(k,1) else if ar s≠0 then(k,ar s) else k.lay n ep s
theorem Dk.write_steps{n:Nat}{d:Dk}{p:Nat}{s:ByteArray}(hp:p<n)(hs:s.size<=64)(h:d.steps=true):d.write n (p:Int) s={ d.step with now:=d.now.set p (bJ s),wait:=d.wait ++ [(p,bJ s)] }:=by unfold Dk.write;rw[if_neg (by omega),if_pos h];rfl
theorem Dk.write_stops{n:Nat}{d:Dk}{p:Nat}{s:ByteArray}(hp:p<n)(hs:s.size<=64)(h:d.steps=false):d.write n (p:Int) s=d.step:=by unfold Dk.write;rw[if_neg (by omega),if_neg (by simp[h])]
theorem Dk.flush_steps{d:Dk}(h:d.steps=true):d.flush={ d.step with kept:=d.now,wait:=[] }:=by unfold Dk.flush; rw[if_pos h]
theorem Dk.flush_stops{d:Dk}(h:d.steps=false):d.flush=d.step:=by unfold Dk.flush; rw[if_neg (by simp[h])]
theorem Dk.step_up{d:Dk}(h:d.steps=true):d.step.down=false:=by unfold Dk.steps at h;simp only[Bool.and_eq_true,Bool.not_eq_true',decide_eq_true_eq]at h;unfold Dk.step;rw[h.1];simp[h.2]
theorem Dk.flush_ok'{n:Nat}{d:Dk}(h:d.ok n):d.flush.ok n:=by
 have k:=Dk.step_ok h;unfold Dk.flush
 split
 .exact⟨k.n40,h.nl,by simpa[(Dk.step_lists d).2.1] using h.nl,(λ_ hr=>by cases hr),k.fu,k.fm⟩
 .exact k
theorem iI{keep:Int}{d:Dk}(h:d.wait=[]):d.restart keep=⟨d.kept,d.kept,[],-1,false⟩:=by unfold Dk.restart;rw[h];rfl
theorem jk{keep:Int}{d:Dk}{i:Nat}{x:ByteArray}(h:d.wait=[(i,x)]):d.restart keep=⟨d.kept,d.kept,[],-1,false⟩\/d.restart keep=⟨d.kept.set i x,d.kept.set i x,[],-1,false⟩:=by
 unfold Dk.restart;rw[h];simp only[List.length_singleton,Dk.restTo,h]
 split
 .right; simp
 .left; rfl
def Gg (n:Nat)(d:Dk)(num ep:Int)(s:St)(ep':Int)(s':St):Prop :=
 d.ok n/\∀keep,KD n (d.restart keep) num ep s\/KD n (d.restart keep) (num+1) ep' s'
section
variable {n:Nat} {d:Dk} {num ep:Int} {s:St}
theorem KD.kd_of(h:KD n d num ep s){l:List ByteArray}(hl:l.length=n)(hp:Place l (iy num) num ep s)(ho:pO l (1 - iy num) num){f:Int}(hf:-1<=f/\f<=9223372036854775807):KD n ⟨l,l,[],f,false⟩ num ep s :=
 ⟨⟨h.ok.n40,hl,hl,(λ_ hr=>by cases hr),hf.1,hf.2⟩,h.n6,rfl,rfl,rfl,h.p1,hp,ho⟩
theorem xy(h:KD n d num ep s)(hn:num<1000000000000000){ep':Int}{s':St}(he:1<=ep'/\ep'<=1000000)(hs:Good s') : let r:=gA n d (iy (num+1)) (kA (num+1) ep' s') (kB (num+1) ep' s')
  r.1.ok n/\(r.2=true->KD n r.1 (num+1) ep' s')/\(r.2=false->Gg n r.1 num ep s ep' s'):=by
 have hk:l5 (num+1) ep' s':=⟨by have:=h.p1; omega,by omega,he.1,he.2,hs⟩
 have hn6:=h.n6;have hp2:=vJ num;have hpn:=AV num;obtain⟨a,ha⟩:=Nn (iy (num+1))
 have ha2:a=1 - iy num:=by omega
 have hA:(kA (num+1) ep' s').size<=64:=l5.kA_size;have hB:=hk.kB_size
 have hE:(⟨#[]⟩:ByteArray).size<=64:=by decide
 obtain⟨A,hAe⟩:=Nn (kA (num+1) ep' s');obtain⟨B,hBe⟩:=Nn (kB (num+1) ep' s');rw[<-ha,<-hAe,<-hBe];rw[<-hAe]at hA;rw[<-hBe]at hB;have nl:=h.ok.nl
 have l2a:2*a<n:=by omega
 have l2b:2*a+1<n:=by omega
 have n1:2*a≠2*iy num:=by omega
 have n2:2*a≠2*iy num+1:=by omega
 have n3:2*a+1≠2*iy num:=by omega
 have n4:2*a+1≠2*iy num+1:=by omega
 obtain⟨N,hN⟩:=Nn d.now;obtain⟨N1,hN1⟩:=Nn (N.set (2*a) fK);obtain⟨N2,hN2⟩:=Nn (N1.set (2*a+1) (bJ B));obtain⟨N3,hN3⟩:=Nn (N2.set (2*a) (bJ A));have p0:Place N (iy num) num ep s:=hN▸h.place;have p1:Place N1 (iy num) num ep s:=hN1▸p0.set n1 n2 _;have p2:Place N2 (iy num) num ep s:=hN2▸p1.set n3 n4 _;have p3:Place N3 (iy num) num ep s:=hN3▸p2.set n1 n2 _;have ln:N.length=n:=hN▸nl
 have ln1:N1.length=n:=by rw[hN1,List.length_set,ln]
 have ln2:N2.length=n:=by rw[hN2,List.length_set,ln1]
 have ln3:N3.length=n:=by rw[hN3,List.length_set,ln2]
 have o0:pO N (1 - iy num) num:=hN▸h.other;have o1:pO N1 (1 - iy num) num:=.inl (by rw[<-ha2,hN1,dQ (by omega)]);have o2:pO N2 (1 - iy num) num:=.inl (by rw[<-ha2,hN2,getD_set_ne (by omega),hN1,dQ (by omega)])
 have q3:Place N3 (iy (num+1)) (num+1) ep' s':=by
  rw[<-ha];refine⟨?_,?_,hk⟩
  .rw[hN3,dQ (by omega),hAe]
  .rw[hN3,getD_set_ne (by omega),hN2,dQ (by omega),hBe]
 have o3:pO N3 (1 - iy (num+1)) (num+1):=.inr ⟨num,ep,s,by omega,by rw[hpn,show 1 - (1 - iy num)=iy num by omega]; exact p3⟩;have ok:=h.ok;have w0:=h.wait;have k0:d.kept=N:=h.same.trans hN.symm
 have fell:∀ {x:Dk},x.ok n->(∀keep,KD n (x.restart keep) num ep s\/KD n (x.restart keep) (num+1) ep' s')->Gg n x num ep s ep' s':=λa b=>⟨a,b⟩
 have mk:∀ {l:List ByteArray},l.length=n->Place l (iy num) num ep s->pO l (1 - iy num) num->KD n ⟨l,l,[],-1,false⟩ num ep s:=λa b c=>h.kd_of a b c (by omega);unfold gA;dsimp only;have ok1:=Dk.write_ok ok ((2*a:Nat):Int) ⟨#[]⟩;by_cases s0:d.steps=false
 .rw[if_pos s0];refine⟨ok1,λe=>(by cases e),λ_=>fell ok1 λkeep=>.inl ?_⟩;rw[Dk.write_stops l2a hE s0];have hl:=Dk.step_lists d;rw[iI (hl.2.2.trans w0),hl.1,k0];exact mk ln p0 o0
 rw[if_neg s0]
 have s0':d.steps=true:=by simpa using s0
 obtain⟨d1,hd1⟩:=Nn (d.write n ((2*a:Nat):Int) ⟨#[]⟩);rw[<-hd1]at ok1 ⊢
 have f1:d1.now=N1/\d1.kept=N/\d1.wait=[(2*a,fK)]:=by rw[hd1,Dk.write_steps l2a hE s0'];refine⟨by rw[hN1,hN]; rfl,by show d.step.kept=_; rw[(Dk.step_lists d).1,k0],by show d.wait ++ _=_; rw[w0]; rfl⟩
 clear hd1;have ok2:=Dk.flush_ok' ok1;by_cases s1:d1.steps=false
 .rw[if_pos s1];refine⟨ok2,λe=>(by cases e),λ_=>fell ok2 λkeep=>.inl ?_⟩;have hl:=Dk.step_lists d1;rw[Dk.flush_stops s1]
  rcases jk (keep:=keep) (hl.2.2.trans f1.2.2) with e | e
  .rw[e,hl.1,f1.2.1]; exact mk ln p0 o0
  .rw[e,hl.1,f1.2.1,<-hN1]; exact mk ln1 p1 o1
 rw[if_neg s1]
 have s1':d1.steps=true:=by simpa using s1
 obtain⟨d2,hd2⟩:=Nn d1.flush;rw[<-hd2]at ok2 ⊢
 have f2:d2.now=N1/\d2.kept=N1/\d2.wait=[]:=by rw[hd2,Dk.flush_steps s1'];exact⟨by show d1.step.now=_; rw[(Dk.step_lists d1).2.1,f1.1],f1.1,rfl⟩
 clear hd2 f1;have ok3:=Dk.write_ok ok2 ((2*a+1:Nat):Int) B;by_cases s2:d2.steps=false
 .rw[if_pos s2];refine⟨ok3,λe=>(by cases e),λ_=>fell ok3 λkeep=>.inl ?_⟩;rw[Dk.write_stops l2b hB s2];have hl:=Dk.step_lists d2;rw[iI (hl.2.2.trans f2.2.2),hl.1,f2.2.1];exact mk ln1 p1 o1
 rw[if_neg s2]
 have s2':d2.steps=true:=by simpa using s2
 obtain⟨d3,hd3⟩:=Nn (d2.write n ((2*a+1:Nat):Int) B);rw[<-hd3]at ok3 ⊢
 have f3:d3.now=N2/\d3.kept=N1/\d3.wait=[(2*a+1,bJ B)]:=by rw[hd3,Dk.write_steps l2b hB s2'];refine⟨by rw[hN2,<-f2.1],by show d2.step.kept=_; rw[(Dk.step_lists d2).1,f2.2.1],by show d2.wait ++ _=_; rw[f2.2.2]; rfl⟩
 clear hd3 f2;have ok4:=Dk.flush_ok' ok3;by_cases s3:d3.steps=false
 .rw[if_pos s3];refine⟨ok4,λe=>(by cases e),λ_=>fell ok4 λkeep=>.inl ?_⟩;have hl:=Dk.step_lists d3;rw[Dk.flush_stops s3]
  rcases jk (keep:=keep) (hl.2.2.trans f3.2.2) with e | e
  .rw[e,hl.1,f3.2.1]; exact mk ln1 p1 o1
  .rw[e,hl.1,f3.2.1,<-hN2]; exact mk ln2 p2 o2
 rw[if_neg s3]
 have s3':d3.steps=true:=by simpa using s3
 obtain⟨d4,hd4⟩:=Nn d3.flush;rw[<-hd4]at ok4 ⊢
 have f4:d4.now=N2/\d4.kept=N2/\d4.wait=[]:=by rw[hd4,Dk.flush_steps s3'];exact⟨by show d3.step.now=_; rw[(Dk.step_lists d3).2.1,f3.1],f3.1,rfl⟩
 clear hd4 f3;have ok5:=Dk.write_ok ok4 ((2*a:Nat):Int) A;by_cases s4:d4.steps=false
 .rw[if_pos s4];refine⟨ok5,λe=>(by cases e),λ_=>fell ok5 λkeep=>.inl ?_⟩;rw[Dk.write_stops l2a hA s4];have hl:=Dk.step_lists d4;rw[iI (hl.2.2.trans f4.2.2),hl.1,f4.2.1];exact mk ln2 p2 o2
 rw[if_neg s4]
 have s4':d4.steps=true:=by simpa using s4
 obtain⟨d5,hd5⟩:=Nn (d4.write n ((2*a:Nat):Int) A);rw[<-hd5]at ok5 ⊢
 have f5:d5.now=N3/\d5.kept=N2/\d5.wait=[(2*a,bJ A)]:=by rw[hd5,Dk.write_steps l2a hA s4'];refine⟨by rw[hN3,<-f4.1],by show d4.step.kept=_; rw[(Dk.step_lists d4).1,f4.2.1],by show d4.wait ++ _=_; rw[f4.2.2]; rfl⟩
 clear hd5 f4;have ok6:=Dk.flush_ok' ok5
 have new:∀ {f:Int},-1<=f/\f<=9223372036854775807->KD n ⟨N3,N3,[],f,false⟩ (num+1) ep' s':=fun {f} hf =>
  ⟨⟨ok.n40,ln3,ln3,(λ_ hr=>by cases hr),hf.1,hf.2⟩,hn6,rfl,rfl,rfl,by have:=h.p1; omega,q3,o3⟩
 by_cases s5:d5.steps=false
 .rw[if_pos s5];refine⟨ok6,λe=>(by cases e),λ_=>fell ok6 λkeep=>?_⟩;have hl:=Dk.step_lists d5;rw[Dk.flush_stops s5]
  rcases jk (keep:=keep) (hl.2.2.trans f5.2.2) with e | e
  .left; rw[e,hl.1,f5.2.1]; exact mk ln2 p2 o2
  .right; rw[e,hl.1,f5.2.1,<-hN3]; exact new (by omega)
 rw[if_neg s5]
 have s5':d5.steps=true:=by simpa using s5
 refine⟨ok6,λ_=>?_,λe=>(by cases e)⟩
 have e:d5.flush=⟨N3,N3,[],d5.step.fuse,false⟩:=by rw[Dk.flush_steps s5',<-f5.1,<-Dk.step_up s5',<-(Dk.step_lists d5).2.1]
 rw[e];exact new ⟨(Dk.step_ok ok5).fu,(Dk.step_ok ok5).fm⟩
end
theorem Dk.step_fuse{d:Dk}(h:d.fuse=-1):d.step.fuse=-1:=by
 unfold Dk.step
 split
 .exact h
 .split
  .rfl
  .dsimp only; rw[if_neg (by omega)]
theorem Dk.write_fuse{n:Nat}{d:Dk}(h:d.fuse=-1)(p:Int)(s:ByteArray):(d.write n p s).fuse=-1:=by
 unfold Dk.write
 split
 .exact h
 .split
  .exact Dk.step_fuse h
  .exact Dk.step_fuse h
theorem Dk.flush_fuse{d:Dk}(h:d.fuse=-1):d.flush.fuse=-1:=by
 unfold Dk.flush
 split
 .exact Dk.step_fuse h
 .exact Dk.step_fuse h
theorem Dk.steps_of{d:Dk}(h:d.fuse=-1)(hd:d.down=false):d.steps=true:=by unfold Dk.steps; rw[h,hd]; rfl
theorem Dk.step_down{d:Dk}(h:d.fuse=-1)(hd:d.down=false):d.step.down=false:=Dk.step_up (Dk.steps_of h hd)
theorem Dk.write_down{n:Nat}{d:Dk}(h:d.fuse=-1)(hd:d.down=false)(p:Int)(s:ByteArray):(d.write n p s).down=false:=by
 unfold Dk.write
 split
 .exact hd
 .split
  .exact Dk.step_down h hd
  .exact Dk.step_down h hd
theorem Dk.flush_down{d:Dk}(h:d.fuse=-1)(hd:d.down=false):d.flush.down=false:=by
 unfold Dk.flush
 split
 .exact Dk.step_down h hd
 .exact Dk.step_down h hd
theorem yV{n:Nat}{d:Dk}(h:d.fuse=-1)(hd:d.down=false)(a:Nat)(A B:ByteArray):(gA n d a A B).2=true/\(gA n d a A B).1.fuse=-1:=by
 have st:∀ {x:Dk},x.fuse=-1/\x.down=false->¬ (x.steps=false):=λhx e=>by rw[Dk.steps_of hx.1 hx.2]at e; cases e
 have w:∀ {x:Dk} (p:Int) (s:ByteArray),x.fuse=-1/\x.down=false->(x.write n p s).fuse=-1/\(x.write n p s).down=false:=λp s hx=>⟨Dk.write_fuse hx.1 p s,Dk.write_down hx.1 hx.2 p s⟩
 have f:∀ {x:Dk},x.fuse=-1/\x.down=false->x.flush.fuse=-1/\x.flush.down=false:=λhx=>⟨Dk.flush_fuse hx.1,Dk.flush_down hx.1 hx.2⟩
 have h0:d.fuse=-1/\d.down=false:=⟨h,hd⟩
 unfold gA;dsimp only;rw[if_neg (st h0),if_neg (st (w _ _ h0)),if_neg (st (f (w _ _ h0))),if_neg (st (w _ _ (f (w _ _ h0)))),if_neg (st (f (w _ _ (f (w _ _ h0))))),if_neg (st (w _ _ (f (w _ _ (f (w _ _ h0))))))];exact⟨rfl,(f (w _ _ (f (w _ _ (f (w _ _ h0)))))).1⟩
end
section
open Go.RowKit
structure aw where
 e:Int
 n:Int
 d:ByteArray
deriving DecidableEq
abbrev aw.v(c:aw):Value:=.agg #[.int .i64 c.e,.int .i64 c.n,.string c.d]
def aw.vs(c:aw):List Value:=[.int .i64 c.e,.int .i64 c.n,.string c.d]
def aw.zero:aw:=⟨0,0,ByteArray.empty⟩
def aC(a b:aw):Bool:=decide (b.e<a.e\/(a.e=b.e/\b.n<a.n))
def flat (l:List aw):List Value:=l.flatMap aw.vs
theorem flat_length(l:List aw):(flat l).length=l.length*3:=by
 induction l with
 | nil=>rfl
 | cons c l ih=>simp[flat,aw.vs]at ih ⊢; omega
theorem sE:∀(l:List aw) (k:Nat) (h:k<l.length),(flat l)[k*3]?=some (.int .i64 l[k].e)/\(flat l)[k*3+1]?=some (.int .i64 l[k].n)/\(flat l)[k*3+2]?=some (.string l[k].d)
 | c :: l,0,_=>by simp[flat,aw.vs]
 | c :: l,k+1,h=>by have:=sE l k (by simpa using h);have e:flat (c :: l)=.int .i64 c.e :: .int .i64 c.n :: .string c.d :: flat l:=rfl;rw[e,show(k+1)*3=k*3+1+1+1 from by omega];simpa using this
theorem uI(l:List aw):∀v∈flat l,v.oneCell'=true:=by
 intro v hv;simp only[flat,List.mem_flatMap,aw.vs,List.mem_cons,List.mem_nil_iff,or_false]at hv
 obtain⟨r,_,h | h | h⟩:=hv<;>subst h<;>rfl
theorem pw:∀(l:List aw) (k:Nat) (c:aw),k<l.length->(((flat l).set (k*3) (.int .i64 c.e)).set (k*3+1) (.int .i64 c.n)).set (k*3+2) (.string c.d)=flat (l.set k c)
 | x :: l,0,c,_=>by simp[flat,aw.vs]
 | x :: l,k+1,c,h=>by have:=pw l k c (by simpa using h);have e:flat (x :: l)=.int .i64 x.e :: .int .i64 x.n :: .string x.d :: flat l:=rfl;have e2:flat ((x :: l).set (k+1) c)=.int .i64 x.e :: .int .i64 x.n :: .string x.d :: flat (l.set k c):=rfl;rw[e,e2,show(k+1)*3=k*3+1+1+1 from by omega,<-this];rfl
theorem mW:Tryz.prog.underlying 62=some (.struct (Tryz.prog.fieldsOf 62))/\Tryz.prog.stoodInHeld 62=false:=by constructor<;>kernel_rfl
theorem mA : ((Tryz.prog.fieldsOf 62).toList.map fun f => (f.name, f.type, f.offset)) = [("Epoch", 3, 0), ("Number", 3, 1), ("Data", 9, 2)] := by kernel_rfl
theorem cM:Tryz.prog.plainKey 3=true/\Tryz.prog.plainKey 9=true:=by constructor<;>kernel_rfl
theorem ri (d : Nat) (xs ys : Array Value) (w : World) : ∀ (fs : List Field), (∀ f ∈ fs, f.name ≠ "_") → ∀ (b : Field → Bool),
  (∀f∈fs,∃x y,(part f.type xs f.offset).run Tryz.prog w=.ok x w/\(part f.type ys f.offset).run Tryz.prog w=.ok y w/\(Op.equalIn d f.type x y).run Tryz.prog w=.ok (b f) w) ->
  (Op.eqFields d xs ys fs).run Tryz.prog w=.ok (fs.all b) w
 | [],_,b,_=>by simp[Op.eqFields]
 | f :: fs,hn,b,h=>by
  obtain⟨x,y,h1,h2,h3⟩:=h f (by simp);have ih:=ri d xs ys w fs (λg hg=>hn g (by simp[hg])) b (λg hg=>h g (by simp[hg]));unfold Op.eqFields;rw[if_pos (hn f (by simp))];simp only[Sem.run_bind,h1,h2,h3,Result.andThen_ok,Sem.run_ite];cases hb:b f
  .simp[hb]
  .simp[hb,ih]
theorem rh(d:Nat)(T:TypeId)(xs ys:Array Value)(w:World)(ht:Tryz.prog.underlying T=some (.struct (Tryz.prog.fieldsOf T)))(hp:Tryz.prog.stoodInHeld T=false)
  (spec:List (String × TypeId × Nat)) (hs:((Tryz.prog.fieldsOf T).toList.map λf=>(f.name,f.type,f.offset))=spec) (b:Nat->Bool)
  (h : ∀ s ∈ spec, s.1 ≠ "_" ∧ ∃ x y, (part s.2.1 xs s.2.2).run Tryz.prog w = .ok x w ∧ (part s.2.1 ys s.2.2).run Tryz.prog w = .ok y w ∧ (Op.equalIn d s.2.1 x y).run Tryz.prog w = .ok (b s.2.2) w) :
  (Op.equalIn (d+1) T (.agg xs) (.agg ys)).run Tryz.prog w=.ok (spec.all λs=>b s.2.2) w:=by
 rw[run_equalIn_struct w d T xs ys ht hp,ri d xs ys w _ ?_ (λf=>b f.offset) ?_]
 .rw[<-hs,List.all_map]; rfl
 .intro f hf;exact(h (f.name,f.type,f.offset) (hs▸List.mem_map_of_mem (f:=λf:Field=>(f.name,f.type,f.offset)) hf)).1
 .intro f hf;exact(h (f.name,f.type,f.offset) (hs▸List.mem_map_of_mem (f:=λf:Field=>(f.name,f.type,f.offset)) hf)).2
theorem oI(d:Nat)(T:TypeId)(n:Nat)(xs ys:Array Value)(w:World)(f g:Nat->Value)(b:Nat->Bool):∀(l:List Nat),
  (∀i∈l,(part T xs (i*n)).run Tryz.prog w=.ok (f i) w/\(part T ys (i*n)).run Tryz.prog w=.ok (g i) w/\(Op.equalIn d T (f i) (g i)).run Tryz.prog w=.ok (b i) w) ->
  ((forIn l ((none,()):Option Bool × Unit) λi _r=>do
    let x <-part T xs (i*n)
    let y <-part T ys (i*n)
    let q <-Op.equalIn d T x y
    if (!q)=true then pure (ForInStep.done (some false,())) else pure (ForInStep.yield (none,()))).run Tryz.prog w)=.ok (if l.all b then(none,()) else(some false,())) w
 | [],_=>by simp
 | i :: l,h=>by
  obtain⟨h1,h2,h3⟩:=h i (by simp);have ih:=oI d T n xs ys w f g b l (λj hj=>h j (by simp[hj]));rw[List.forIn_cons];simp only[Sem.run_bind,h1,h2,h3,Result.andThen_ok,Sem.run_ite];cases hb:b i
  .simp[hb]
  .simp only[Bool.not_true,Bool.false_eq_true,if_false,Sem.run_pure,Result.andThen_ok,List.all_cons,hb,Bool.true_and];exact ih
theorem Cf(d:Nat)(T E:TypeId)(len n:Nat)(xs ys:Array Value)(w:World)(ht:Tryz.prog.underlying T=some (.array len E))(hn:(Tryz.prog.info? E).map (·.size)=some n)(f g:Nat->Value)(b:Nat->Bool)(h:∀i<len,(part E xs (i*n)).run Tryz.prog w=.ok (f i) w/\(part E ys (i*n)).run Tryz.prog w=.ok (g i) w/\(Op.equalIn d E (f i) (g i)).run Tryz.prog w=.ok (b i) w) : (Op.equalIn (d+1) T (.agg xs) (.agg ys)).run Tryz.prog w=.ok ((List.range len).all b) w:=by
 have hs:(sizeOf E).run Tryz.prog w=.ok n w:=by
  cases hq:Tryz.prog.info? E with
  | none=>simp[hq]at hn
  | some i=>simp[hq]at hn; simp[sizeOf,typeInfo,hq,hn]
 have:=oI d E n xs ys w f g b (List.range len) (λi hi=>h i (by simpa using hi));simp only[Op.equalIn,Sem.run_bind,run_underlying ht,Result.andThen_ok,hs];simp only[Std.Legacy.Range.forIn_eq_forIn_range',Std.Legacy.Range.size,Nat.sub_zero,Nat.add_one_sub_one,Nat.div_one];simp only[<-List.range_eq_range',this,Result.andThen_ok]
 cases (List.range len).all b<;>simp
