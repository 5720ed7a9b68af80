import Derived.Test.YtjalgpcigojpkaaGreatDoorQ29
import Derived.Test.YtjalgpcigojpkaaGreatDoorQ20
set_option maxRecDepth 99999
set_option maxHeartbeats 99999999
namespace Go.Proofs.YtjalgpcigojpkaaGreatDoor
section
open Go.RowKit Go.Sort
section
variable (w0 w:World) (n D T:Nat) (t:Tg) (Y:Nat->Prop)
theorem yf(k:Nat)(hk:k<8)(h:bR w0 n D T t Y w)(he:0<=t.k.ep/\t.k.ep<=1000000)(J0:t.g.ok) : Calls Tryz.prog 46 #[.pointer (some ⟨T,0,none⟩),.int .i64 k] w λe w'=>e=.returned (.tuple #[.string (t.read k).2.1,bg (t.read k).2.2])/\cV w0 w n D T (t.read k).1 Y w':=by
  have RDY:=Hx (jH w0 w n D T t Y h he (Gp.fence_ok J0 _));have HH:=Hx h;have RD:=Hs (t.read k=if t.isReady=false then(t.ready,⟨#[]⟩,7) else({ t.ready with g:=t.ready.g.read t.ready.k.ep k },(t.ready.g.readC t.ready.k.ep k).d,0)) rfl;have ISR:=Hs (t.isReady=decide (2<=(t.ready.g.mem t.ready.k.ep).length)) rfl;obtain⟨r,hr⟩:=Nm (t.read k);rw[hr]at RD ⊢;clear hr h he J0;go_enter Tryz.func46,Tryz.ntmps46
  go_wp2_with fail;refine RDY.out.mono ?_;rintro e w2 ⟨rfl,h2,k2⟩;have H2:=Hx h2;have K2:=Hx k2;have SY2:=Hx (HH.out.same_y k2);clear h2 k2 RDY;rw[jR];cases Jy:t.isReady
  .have RD1:=Hx (RD.out.trans (if_pos Jy));clear RD ISR;simp only[Bool.false_eq_true,if_false];go_wp2;have P:=Hs (cV w0 w n D T t.ready Y w2) (⟨H2.out,SY2.out,K2.out⟩);exact bodyPost_ret (v:=.tuple #[.string ⟨#[]⟩,bg 7]) (by simp[results,Tryz.results46,go_sem,bg]) rfl (by rw[RD1.out]; exact⟨rfl,P.out⟩)
  have RD1:=Hx (RD.out.trans (if_neg (by rw[Jy]; decide)));have IS2:=Hx (ISR.out.symm.trans Jy);clear RD ISR Jy;simp only[if_true];obtain⟨t2,ht2⟩:=Nm t.ready;rw[ht2]at H2 RD1 IS2;clear ht2;obtain⟨X,m,ki,tb,lo,hy⟩:=H2.out
  have LTT:=(Gl tb.blk)
  have ZG:=Hx (Gp.size tb.ok);have TB:=Hx tb;have KI0:=Hx ki;have LO:=Hx lo;have HY:=Hx hy;have RG:=Hx (λw' (h:Below w2.heap.size w2 w')=>(show w'.rangeAt T 1 t2.g.arr.toList from λj v hv=>(h.cell (p:=⟨T,1+j,none⟩) LTT).trans ((eF tb.blk tb.ok).1 j v hv)));have SC:=Hx (λw' (h:Below w2.heap.size w2 w')=>(h.cell (p:=⟨T,0,none⟩) LTT).trans (aG tb.blk tb.ok).1.1);have EPO:=Hx (λw' (h:Below w2.heap.size w2 w')=>gZ n w0 w' X D m.K t2.k (ki.over h));have FEN:=Hx (λw'=>zf t2.g t2.k.ep k w' tb.ok hk);have OKF:=Hx (Gp.read_ok tb.ok t2.k.ep k);rw[IS2.out]at FEN;obtain⟨FG,MA⟩:=Nm (t2.g.read t2.k.ep k);obtain⟨CC,hCC⟩:=Nm (t2.g.readC t2.k.ep k);rw[MA,hCC]at FEN RD1;rw[MA]at OKF;have ZF:=Hx (Gp.size OKF.out);clear MA hCC ki tb lo hy IS2;go_upto_region 4 with fail;go_cut [7,8,9] (λv7 v8 v9 wx=>∃V V2,v7=.pointer (some ⟨V,0,none⟩)/\v8=.pointer (some ⟨V2,0,none⟩)/\v9=.bool true/\w2.heap.size<=V/\wx.heap[V]?=some (.cells FG.arr 69 (0,0))/\wx.heap[V2]?=some (.cells CC.cells 62 (0,0))/\Below w2.heap.size w2 wx)
  case first =>
    obtain⟨S,hS⟩:∃S:World->Prop,S=λw'=>Below w2.heap.size w2 w':=⟨_,rfl⟩
    have S3:∀w',Below w2.heap.size w2 w'->S w':=λw' h=>by rw[hS]; exact h
    have S4:∀w',S w'->Below w2.heap.size w2 w':=λw' h=>by rw[hS]at h; exact h
    clear hS;refine wp_region_held_drew (S:=S) (by kernel_rfl) (S3 _ (Below.refl _ _).drew) (λdT=>?_);obtain⟨wq,hwq⟩:=Nn w2.drew;rw[<-hwq]at dT ⊢;clear hwq;have hH:=dT;clear dT
    repeat' first
      | (refine wpAnyH_done (by decide +kernel) ?_ _; go_wp2_with fail; go_meet; exact⟨V,C,rfl,rfl,rfl,HL,HV.out,HC.out,S4 _ hH⟩)
      | (first
          | refine wu 0 (.pointer (some ⟨T,0,none⟩)) hH ?_
          | refine wu 1 (.pointer (some ⟨T,0,none⟩)) hH ?_
          | refine wu 2 (.pointer (some ⟨T,1,none⟩)) hH ?_
          | refine wu 3 (.agg t2.g.arr) hH ?_ (hy:=cD (by rfl) 69 _ rfl T 1 rfl t2.g.arr _ (λw' h=>RG.out w' (S4 w' h)) aj.1 rfl (by rw[aj.2,ZG.out]))
          | refine wu 4 (.pointer (some ⟨T,0,none⟩)) hH ?_
          | refine wu 5 (.pointer (some ⟨T,0,none⟩)) hH ?_
          | refine wu 6 (.pointer (some ⟨T,0,none⟩)) hH ?_
          | refine wu 7 (.pointer (some ⟨m.K,0,none⟩)) hH ?_ (hy:=Or.inl ⟨by rfl,λw' sT=>by have hc:=SC.out w' (S4 w' sT); go_simp⟩)
          | refine wu 9 (.int .i64 (k:Int)) hH ?_
          | refine wu 11 (.tuple #[.agg FG.arr,.agg CC.cells,.bool true]) hH ?_
          | refine wu 12 (.agg FG.arr) hH ?_
          | refine wu 13 (.agg CC.cells) hH ?_
          | refine wu 14 (.bool true) hH ?_
         go_simp)
      | (refine He [8,10,15,16,17,18,19] (by decide +kernel) (λj hj hr=>?_)
         simp only[List.mem_cons,List.not_mem_nil,or_false]at hj
         rcases hj with rfl | rfl | rfl | rfl | rfl | rfl | rfl<;>first | exact dead hr | refine Hf (o:=_) rfl (λKx hK=>?_))
      | (clear hr
         first
          | (refine aJ rfl 69 _ _ rfl V FG.arr rfl rfl 69 Gp.zero.arr HV.out (by rw[aj.2,ZF.out]) (by rw[ZF.out]; rfl) (Gp.one _) ?_
             try replace HC:=Hx (Hg FG.arr HV.out HC.out (by decide))
             have HH:=S3 _ (aN (S4 _ hH) HL FG.arr);replace HV:=Hx (setRow_heap _ _ _ FG.arr _ _ HV.out);obtain⟨wn,hn⟩:=Nn (World.setRow wq V FG.arr);rw[<-hn]at HH HV ⊢
             try rw[<-hn]at HC
             clear hn;refine hK.out _ _ HH (λhH=>?_);clear hK Kx HH;go_simp
             obtain⟨wq,rfl⟩:=Nn wn)
          | (refine aJ rfl 62 _ _ rfl C CC.cells rfl rfl 62 #[.int .i64 0,.int .i64 0,.string ⟨#[]⟩] HC.out au.2 rfl (eQ _) ?_
             try replace HV:=Hx (Hg CC.cells HC.out HV.out (by decide))
             have HH:=S3 _ (aN (S4 _ hH) CL CC.cells);replace HC:=Hx (setRow_heap _ _ _ CC.cells _ _ HC.out);obtain⟨wn,hn⟩:=Nn (World.setRow wq C CC.cells);rw[<-hn]at HH HC ⊢
             try rw[<-hn]at HV
             clear hn;refine hK.out _ _ HH (λhH=>?_);clear hK Kx HH;go_simp
             obtain⟨wq,rfl⟩:=Nn wn)
          | (go_simp
             first
              | (refine(EPO.out _ (S4 _ hH)).mono ?_
                 rintro e wn ⟨rfl,hn⟩;replace hn:=hn.symm;subst hn;refine hK.out _ _ hH (λhH=>?_)
                 clear hK Kx)
              | (refine(FEN.out _).mono ?_
                 rintro e wn ⟨rfl,bn⟩;have HH:=S3 _ ((S4 _ hH).trans (bn.mono (S4 _ hH).size))
                 try replace HV:=Hx (GK bn HV.out)
                 try replace HC:=Hx (GK bn HC.out)
                 clear bn;refine hK.out _ _ HH (λhH=>?_);clear hK Kx HH
                 obtain⟨wq,rfl⟩:=Nn wn)
              | (obtain⟨wn,hn⟩:=Nn (wq.alloc (.cells Tryz.zeroCells69 69))
                 rw[<-hn]
                 try replace HC:=Hx (Hh (.cells Tryz.zeroCells69 69) HC.out)
                 have HV:=Hs (wn.heap[wq.heap.size]?=some (.cells Gp.zero.arr 69 (0,0))) (hn▸aS▸heap_alloc_new _ _);have HL:=(S4 _ hH).size;have HH:=S3 _ ((S4 _ hH).alloc (S4 _ hH).size (.cells Tryz.zeroCells69 69));obtain⟨V,hV⟩:=Nm wq.heap.size;rw[hV]at HV HL ⊢;rw[<-hn]at HH
                 try rw[<-hn]at HC
                 clear hV hn;refine hK.out _ _ HH (λhH=>?_);clear hK Kx HH
                 obtain⟨wq,rfl⟩:=Nn wn)
              | (obtain⟨wn,hn⟩:=Nn (wq.alloc (.cells #[.int .i64 0,.int .i64 0,.string ⟨#[]⟩] 62))
                 rw[<-hn]
                 try replace HV:=Hx (Hh (.cells #[.int .i64 0,.int .i64 0,.string ⟨#[]⟩] 62) HV.out)
                 have HC:=Hx (heap_alloc_new wq (.cells #[.int .i64 0,.int .i64 0,.string ⟨#[]⟩] 62));have CL:=(S4 _ hH).size;have HH:=S3 _ ((S4 _ hH).alloc (S4 _ hH).size (.cells #[.int .i64 0,.int .i64 0,.string ⟨#[]⟩] 62));obtain⟨C,hC⟩:=Nm wq.heap.size;rw[hC]at HC CL ⊢;rw[<-hn]at HH HC
                 try rw[<-hn]at HV
                 clear hC hn;refine hK.out _ _ HH (λhH=>?_);clear hK Kx HH
                 obtain⟨wq,rfl⟩:=Nn wn)
              | (refine hK.out _ _ hH (λhH=>?_)
                 clear hK Kx)))
  case rest =>
    obtain⟨V,V2,rfl,rfl,rfl,hV,hc,N9,hb⟩:=hcut;have HC:=Hx hc;have K5:=Hx (KI0.out.over hb);have T5:=Hx (TB.out.same (KI0.out.same_of hb) K5.out.lt);have B5:=Hx hb;have TH:=Hs (wc.there T 1 FG.arr.size) (by rw[ZF.out]; exact(eF T5.out.blk T5.out.ok).2)
    have hV2T:V2≠T:=λq=>by rw[q,T5.out.blk]at N9;exact absurd (congrArg (λo:Option Obj=>match o with | some (.cells _ ty _)=>ty | _=>0) N9:(106:Nat)=62) (by decide)
    have P:=Hs (cV w0 w n D T { t2 with g:=FG } Y (wc.setCells T 1 FG.arr.toList)) (by
      have q:cV w0 wc n D T { t2 with g:=FG } Y (wc.setCells T 1 FG.arr.toList):=.of K5.out T5.out LO.out HY.out (T5.out.setG OKF.out).2 (T5.out.setG OKF.out).1 rfl;have q2:cV w0 w2 n D T { t2 with g:=FG } Y (wc.setCells T 1 FG.arr.toList):=.over H2.out B5.out q
      exact⟨q2.1,SY2.out.trans q2.2.1,K2.out.trans q2.2.2⟩)
    have CD:wc.cell? ⟨V2,2,none⟩=some (.string CC.d):=by simp[World.cell?,N9,aw.cells]
    have Nr:=(Gl N9)
    clear hc N9 hb hV FEN EPO RG SC TB KI0;go_upto_region 8 with (first|((with_reducible refine bU rfl 69 _ rfl ?_); refine⟨V,_,FG.arr,_,rfl,HC.out,aj.1,rfl,by rw[aj.2,ZF.out],?_⟩)|((with_reducible refine eZ rfl 69 _ _ rfl ?_); refine⟨T,1,FG.arr,rfl,rfl,TH.out,by rw[aj.2,ZF.out],Gp.one _,?_⟩));obtain⟨w6,IP⟩:=Nn (wc.setCells T 1 FG.arr.toList);have CD6:w6.cell? ⟨V2,2,none⟩=some (.string CC.d):=(World.cell?_of_block (a:=⟨V2,2,none⟩) (IP▸(ac.setCells (S:=(·=T)) rfl FG.arr.toList 1 _ wc (ac.refl _ wc)).block V2 hV2T Nr)).trans CD;rw[<-IP]at P ⊢;clear IP T5 K5 B5 TH HC CD;go_wp2;exact bodyPost_ret (v:=.tuple #[.string CC.d,.nilIface]) (by simp[results,Tryz.results46,go_sem]) rfl (by rw[RD1.out]; exact⟨rfl,P.out⟩)
end
end
section
open Go.RowKit
theorem Sz.keep{n:Nat}{k:Kp}(h:Sz k.d)(ep:Int)(s:St):Sz (k.keep n ep s).1.d:=by
 unfold Kp.keep
 split
 .exact h
 split
 .exact h
 .unfold Kp.lay;dsimp only
  split
  .exact h.lay
  .exact h.lay
section
variable {n:Nat} {t:Tg}
theorem kZ(h:Sz t.k.d)(ep:Int)(s:St):Sz (t.keep n ep s).1.k.d:=by unfold Tg.keep;exact h.keep ep s
theorem nD(h:Sz t.k.d)(s:St):Sz (t.next n s).1.k.d:=by
 have hr:Sz t.ready.k.d:=h;unfold Tg.next
 split
 .exact hr
 split
 .exact hr
 split
 .exact kZ hr _ _
 .have h2:Sz (t.ready.keep n (t.k.ep+1) t.k.s).1.fresh.k.d:=kZ hr (t.k.ep+1) t.k.s;dsimp only
  split
  .exact h2
  .exact kZ (t:=(t.ready.keep n (t.k.ep+1) t.k.s).1.fresh.ready) h2 _ _
theorem Am(h:Sz t.k.d)(c:bG):Sz (t.order n c).1.k.d:=by
 unfold Tg.order
 split
 .exact h
 .have h2:Sz (if cG ce t.k.s (dy t.k.s c).1 then t.next n (dy t.k.s c).1 else t.keep n t.k.ep (dy t.k.s c).1).1.k.d:=by
   split
   .exact nD h _
   .exact kZ h _ _
  generalize (if cG ce t.k.s (dy t.k.s c).1 then t.next n (dy t.k.s c).1 else t.keep n t.k.ep (dy t.k.s c).1)=x at h2⊢
  dsimp only
  split
  .exact h2
  .exact h2
theorem vD(t:Tg)(k:Nat):(t.read k).1.k=t.k:=by unfold Tg.read; split<;>rfl
theorem Hz(t:Tg)(c:bG):(t.write c).1.k=t.k:=by unfold Tg.write; split<;>rfl
theorem rj(t:Tg)(c:bG):(t.doWrite c).1.k=t.k:=Hz t c
theorem Cm(t:Tg)(c:bG):(t.doComp c).1.k=t.k:=by
 unfold Tg.doComp;dsimp only
 split
 .exact vD t _
 .exact(rj _ c).trans (vD t _)
theorem An(h:Sz t.k.d)(c:bG):Sz (t.ask n c).1.k.d:=by
 unfold Tg.ask
 split
 .exact h
 split
 .exact h
 split
 .exact Am h c
 split
 .exact h
 split
 .dsimp only; rw[vD]; exact h
 split
 .exact h
 split
 .rw[Cm]; exact h
 .rw[rj]; exact h
theorem oh(h:Sz t.k.d)(i:Int)(b:Bool):Sz (t.deliver i b).1.k.d:=by
 unfold Tg.deliver
 split
 .exact h
 dsimp only
 split
 .rw[(rl _ _).1]; exact h
 .exact h
theorem tH(h:Sz t.k.d):Sz (t.power n).1.k.d:=by
 have h2:=nD (n:=n) h t.k.s.lost;unfold Tg.power;dsimp only
 split
 .exact h2
 .exact h2
theorem Dy(h:Sz t.k.d):Sz (t.anew n).k.d:=by
 unfold Tg.anew
 split
 .exact nD (t:=Tg.start t.k t.g) h _
 .exact h
theorem Dx(h:Sz t.k.d)(x:Ac):Sz (t.play n x).k.d:=by
 unfold Tg.play
 split
 .exact An h _
 split
 .exact oh h _ _
 split
 .unfold Tg.lose; split<;>exact h
 split
 .unfold Tg.up; split<;>exact h
 split
 .unfold Tg.sync; split
  .exact h
  .split<;>exact h
 split
 .exact tH h
 .exact Dy h
end
structure TJ (n:Nat) (S:aw->Prop) (B:Int) (t:Tg):Prop where
 ti:TI n S B t
 sz:Sz t.k.d
section
variable {n:Nat} {S:aw->Prop} {B:Int} {t:Tg}
theorem TJ.kg(h:TJ n S B t):KG n t.k:=⟨h.ti.kd,h.sz⟩
theorem TJ.mono(h:TJ n S B t){C:Int}(hB:B<=C):TJ n S C t:=⟨h.ti.mono hB,h.sz⟩
theorem TJ.ask(h:TJ n S B t)(hB:B+2<1000000000000000)(c:bG):∃S',(∀x,S x->S' x)/\TJ n S' (B+2) (t.ask n c).1:=by obtain⟨S',i,h'⟩:=h.ti.ask hB c;exact⟨S',i,h',An h.sz c⟩
theorem TJ.play(h:TJ n S B t)(hB:B+2<1000000000000000)(x:Ac):∃S',(∀x,S x->S' x)/\TJ n S' (B+2) (t.play n x):=by obtain⟨S',i,h'⟩:=h.ti.play hB x;exact⟨S',i,h',Dx h.sz x⟩
theorem TJ.deliver(h:TJ n S B t)(i:Int)(b:Bool):TJ n S B (t.deliver i b).1:=⟨h.ti.deliver i b,oh h.sz i b⟩
theorem TJ.power(h:TJ n S B t)(hB:B+2<1000000000000000):TJ n S (B+2) (t.power n).1:=⟨h.ti.power hB,tH h.sz⟩
theorem tw{s:St}(g:Good s){c:bG}(hc:jA c):∀x∈(dy s c).2.1,1<=x.1/\x.1<=4:=by
 by_cases hz:(dy s c).2.2=0
 .have f:=Ey g (r:=(dy s c).1) (lt:=(dy s c).2.1) (by rw[<-hz]) hc.op.1;intro x hx;have h2:=(f.mem x hx).2;obtain⟨r,hr,e,-⟩:=qP x.1 s.regs h2;have:=g.bounds r hr;omega
 .intro x hx;exfalso;unfold dy at hx hz
  split at hx
  .simp at hx
  .rw[if_neg (by assumption)]at hz
   split at hx
   .simp at hx
   .rw[if_neg (by assumption)]at hz
    split at hx
    .simp at hx
    .rw[if_neg (by assumption)]at hz;apply hz
     split<;>rfl
end
