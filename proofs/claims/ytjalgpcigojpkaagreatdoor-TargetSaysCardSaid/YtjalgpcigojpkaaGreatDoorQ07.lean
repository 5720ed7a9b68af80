import Derived.Test.YtjalgpcigojpkaaGreatDoorQ06
set_option maxRecDepth 99999
set_option maxHeartbeats 99999999
namespace Go.Proofs.YtjalgpcigojpkaaGreatDoor
section
open Go.RowKit
theorem bX.alloc{B:Nat}{w:World}{v:Value}{l:List (Int × Int)}(h:bX B w v l)(o:Obj):bX B (w.alloc o) v l:=h.below (ay w o)
theorem fV(w:World)(x y:Int)(T:TypeId)(n:Nat)(hn:n=w.heap.size):∀j u,(ah [(x,y)])[j]?=some u->(w.alloc (.cells #[.int .i64 x,.int .i64 y] T)).cell? ((⟨n,0,none⟩:Addr).add j)=some u:=by
 subst hn;intro j u hj
 have Jm:(⟨w.heap.size,0,none⟩:Addr).add j=⟨w.heap.size,j,none⟩:=by unfold Addr.add; split<;>simp_all
 rw[Jm]
 match j,hj with
 | 0,hj=>simp[ah]at hj; simp[hj]
 | 1,hj=>simp[ah]at hj; simp[hj]
 | j+2,hj=>simp[ah]at hj
theorem AA(s:St)(a:Option Addr)(cap:Nat)(who key:Int)(w:World)(hr:bj w s a)(hl:s.regs.length<=50)(hk:0<=key)(hs:s.regs.Pairwise (λa b=>a.1<b.1)) :
  Calls Tryz.prog 102 #[dh s a cap,.int .i64 who,.int .i64 key] w λe w'=>∃a' cap',e=.returned (dh (s.withRegs (aZ s.regs who key)) a' cap')/\bj w' (s.withRegs (aZ s.regs who key)) a'/\Below w.heap.size w w'/\(∀b o,a'=some ⟨b,o,none⟩->w.heap.size<=b):=by
 rw[<-DJ who key s.regs hk hs];obtain⟨g,l,t,h,st⟩:=s;obtain⟨_,hr⟩:=hr;dsimp only at hl hr;obtain⟨i0,hi,Ij,Ii,Im⟩:=info_parts Tryz.infoReg
 have Ly:(key == 0)=decide (key=0):=by rcases (by omega:key=0\/key≠0) with e | e<;>simp[e]
 have HKB:=Hx Ly;clear hs Ly;go_enter Tryz.func102,Tryz.ntmps102
 go_wp2
 go_loopw [7,8,9] (λv b i wr=>∃k:Nat,k<=l.length/\i=.int .i64 k/\b=.bool (dA who key (l.take k)).2/\bX (w.heap.size+2) wr v (dA who key (l.take k)).1 /\
   Below (w.heap.size+2) ((w.alloc (.cells #[.int .i64 g,.slice a l.length cap,.int .i64 t,.int .i64 h,.bool st] 34)).alloc (.cells #[.int .i64 0,.slice none 0 0,.int .i64 0,.int .i64 0,.bool false] 34)) wr) (λ_ _ i _=>l.length - (intOf i).toNat)
 case atStart=>exact⟨0,by omega,rfl,by rw[HKB.out]; rfl,⟨rfl,.inl ⟨rfl,rfl⟩⟩,Below.refl _ _⟩
 case round =>
  obtain⟨k,hk,rfl,rfl,ec,hb⟩:=hrel;have hfl:=Fj who key (l.take k)
  have hfl2:(dA who key (l.take k)).1.length<=2*l.length:=by simp at hfl; omega
  clear hfl;have HSN:=Hx (DL who key l k)
  have hsz:w.heap.size+2<=wr.heap.size:=by have:=hb.size; simpa using this
  have hhp:∀A B:Obj,((w.alloc A).alloc B).heap[w.heap.size]?=some A/\((w.alloc A).alloc B).heap[w.heap.size+1]?=some B:=λA B=>⟨heap_alloc2_old w A B,heap_alloc2_new w A B⟩
  obtain⟨⟨e0,e1,e2,e3,e4⟩,f0,f1,f2,f3,f4⟩:=bP hb (b:=w.heap.size) (by omega) (hhp _ _).1;obtain⟨⟨g0,g1,g2,g3,g4⟩,k0,k1,k2,k3,k4⟩:=bP hb (b:=w.heap.size+1) (by omega) (hhp _ _).2;clear hhp;by_cases lB:k<l.length
  .have hsn:=HSN.out lB;obtain⟨b,o,rfl,Ix,h1,h2⟩:=hr k lB;have b0:Below w.heap.size w wr:=aT (aT hb (by simp)) (by simp);have c1:=(b0.cell (p:=⟨b,o+k*2,none⟩) Ix).trans h1;have c2:=(b0.cell (p:=⟨b,o+k*2+1,none⟩) Ix).trans h2
   generalize dA who key (l.take k)=F at *
   obtain⟨acc,laid⟩:=F;dsimp only at ec hfl2⊢;have Ie:=Hx ec;have Iy:=Hx ec.blk;have H1:=Hx h1;have H2:=Hx h2;clear ec HSN hr h1 h2
   have hfl3:acc.length<=100:=by omega
   cases laid
   .by_cases hge:who<=l[k].1
    .rcases (by omega:l[k].1=who\/l[k].1≠who) with he | he
     .have I7:bS who key (acc,false) l[k]=(acc ++ [(who,key)],true):=by
       have hly:eA who key (acc,false) l[k]=(acc ++ [(who,key)],true):=by simp[eA,hge]
       unfold bS;rw[if_neg (by simp[he]),hly]
      have Jb:=Hx (hsn.trans I7)
      have J9:(l[k].1 != who)=false:=by simp[he]
      clear I7 hsn he
      have q3:acc.length+1<=maxLen:=by unfold maxLen; omega
      have q4:(acc.length+1)*16<=140737488355328:=by omega
      have q5:∀o,w.heap.size+2<=(wr.alloc o).heap.size:=λo=>by simp; omega
      go_wp2_with (at_builtin; refine wpList_append_own _ rfl (.tmp 31) (.tmp 35) 32 rfl (w.heap.size+2) 144 i0 (.agg #[.int .i64 0,.int .i64 0]) 2 16 Tryz.underlying32 hi Ij Ii Im rfl (by decide) _ _ _ rfl (Ie.out.alloc _) ⟨wr.heap.size,0,none⟩ 1 1 (ah [(who,key)]) rfl rfl (fV _ _ _ _ _ rfl) (bC _) q3 q4 (q5 _) ?_);intro v1 w1 jZ Il _;clear q3 q4 q5;have own1:bX (w.heap.size+2) w1 v1 (acc ++ [(who,key)]):=gp jZ;have wC:=(hb.alloc (by omega) _).grown Il (by simp; omega) Iy.out;have JC:=Hx own1;have Oo:=Hx own1.blk
      have Lq:w.heap.size+2<=w1.heap.size:=by have:=wC.size; simpa using this
      clear jZ Il own1;have b1:Below w.heap.size w w1:=aT (aT wC (by simp)) (by simp);have c11:=(b1.cell (p:=⟨b,o+k*2,none⟩) Ix).trans H1.out;have c21:=(b1.cell (p:=⟨b,o+k*2+1,none⟩) Ix).trans H2.out;obtain⟨⟨e01,e11,e21,e31,e41⟩,f01,f11,f21,f31,f41⟩:=bP wC (b:=w.heap.size) (by omega) (heap_alloc2_old w _ _);go_wp2;go_roundw
      case rel=>exact⟨k+1,by omega,by go_num,by rw[Jb.out],by rw[Jb.out]; exact JC.out,wC⟩
      case measure=>simp[intOf]; omega
     .have I7:bS who key (acc,false) l[k]=(acc ++ [(who,key)] ++ [l[k]],true):=by
       have hly:eA who key (acc,false) l[k]=(acc ++ [(who,key)],true):=by simp[eA,hge]
       unfold bS;rw[if_pos he,hly]
      have Jb:=Hx (hsn.trans I7)
      have J9:(l[k].1 != who)=true:=by simp[he]
      clear I7 hsn he
      have q3:acc.length+1<=maxLen:=by unfold maxLen; omega
      have q4:(acc.length+1)*16<=140737488355328:=by omega
      have q5:∀o,w.heap.size+2<=(wr.alloc o).heap.size:=λo=>by simp; omega
      go_wp2_with (at_builtin; refine wpList_append_own _ rfl (.tmp 31) (.tmp 35) 32 rfl (w.heap.size+2) 144 i0 (.agg #[.int .i64 0,.int .i64 0]) 2 16 Tryz.underlying32 hi Ij Ii Im rfl (by decide) _ _ _ rfl (Ie.out.alloc _) ⟨wr.heap.size,0,none⟩ 1 1 (ah [(who,key)]) rfl rfl (fV _ _ _ _ _ rfl) (bC _) q3 q4 (q5 _) ?_);intro v1 w1 jZ Il _;clear q3 q4 q5;have own1:bX (w.heap.size+2) w1 v1 (acc ++ [(who,key)]):=gp jZ;have wC:=(hb.alloc (by omega) _).grown Il (by simp; omega) Iy.out;have JC:=Hx own1;have Oo:=Hx own1.blk
      have Lq:w.heap.size+2<=w1.heap.size:=by have:=wC.size; simpa using this
      clear jZ Il own1;have b1:Below w.heap.size w w1:=aT (aT wC (by simp)) (by simp);have c11:=(b1.cell (p:=⟨b,o+k*2,none⟩) Ix).trans H1.out;have c21:=(b1.cell (p:=⟨b,o+k*2+1,none⟩) Ix).trans H2.out;obtain⟨⟨e01,e11,e21,e31,e41⟩,f01,f11,f21,f31,f41⟩:=bP wC (b:=w.heap.size) (by omega) (heap_alloc2_old w _ _)
      have q3:(acc ++ [(who,key)]).length+1<=maxLen:=by simp only[List.length_append,List.length_cons,List.length_nil]; unfold maxLen; omega
      have q4:((acc ++ [(who,key)]).length+1)*16<=140737488355328:=by simp only[List.length_append,List.length_cons,List.length_nil]; omega
      have q5:∀o,w.heap.size+2<=(w1.alloc o).heap.size:=λo=>by simp; omega
      go_wp2_with (at_builtin; refine wpList_append_own _ rfl (.tmp 45) (.tmp 51) 32 rfl (w.heap.size+2) 144 i0 (.agg #[.int .i64 0,.int .i64 0]) 2 16 Tryz.underlying32 hi Ij Ii Im rfl (by decide) _ _ _ rfl (JC.out.alloc _) ⟨w1.heap.size,0,none⟩ 1 1 (ah [(l[k].1,l[k].2)]) rfl rfl (fV _ _ _ _ _ rfl) (bC _) q3 q4 (q5 _) ?_);intro v2 w2 Ig Ja _;clear q3 q4 q5;have own2:bX (w.heap.size+2) w2 v2 (acc ++ [(who,key)] ++ [l[k]]):=gp (l:=acc ++ [(who,key)]) (x:=l[k].1) (y:=l[k].2) (by rw[List.length_append]; exact Ig);have Ih:=(wC.alloc (by omega) _).grown Ja (by simp; omega) Oo.out;have KL:=Hx own2;have HBLK2:=Hx own2.blk
      have hsz2:w.heap.size+2<=w2.heap.size:=by have:=Ih.size; simpa using this
      clear Ig Ja own2;go_wp2;go_roundw
      case rel=>exact⟨k+1,by omega,by go_num,by rw[Jb.out],by rw[Jb.out]; exact KL.out,Ih⟩
      case measure=>simp[intOf]; omega
    .have he:l[k].1≠who:=by omega
     have I7:bS who key (acc,false) l[k]=(acc ++ [l[k]],false):=by
      have hly:eA who key (acc,false) l[k]=(acc,false):=by simp[eA,hge]
      unfold bS;rw[if_pos he,hly]
     have Jb:=Hx (hsn.trans I7)
     have J9:(l[k].1 != who)=true:=by simp[he]
     clear I7 hsn he
     have q3:acc.length+1<=maxLen:=by unfold maxLen; omega
     have q4:(acc.length+1)*16<=140737488355328:=by omega
     have q5:∀o,w.heap.size+2<=(wr.alloc o).heap.size:=λo=>by simp; omega
     go_wp2_with (at_builtin; refine wpList_append_own _ rfl (.tmp 45) (.tmp 51) 32 rfl (w.heap.size+2) 144 i0 (.agg #[.int .i64 0,.int .i64 0]) 2 16 Tryz.underlying32 hi Ij Ii Im rfl (by decide) _ _ _ rfl (Ie.out.alloc _) ⟨wr.heap.size,0,none⟩ 1 1 (ah [(l[k].1,l[k].2)]) rfl rfl (fV _ _ _ _ _ rfl) (bC _) q3 q4 (q5 _) ?_);intro v2 w2 Ig Ja _;clear q3 q4 q5;have own2:bX (w.heap.size+2) w2 v2 (acc ++ [l[k]]):=gp Ig;have Ih:=(hb.alloc (by omega) _).grown Ja (by simp; omega) Iy.out;have KL:=Hx own2;have HBLK2:=Hx own2.blk
     have hsz2:w.heap.size+2<=w2.heap.size:=by have:=Ih.size; simpa using this
     clear Ig Ja own2;go_wp2;go_roundw
     case rel=>exact⟨k+1,by omega,by go_num,by rw[Jb.out],by rw[Jb.out]; exact KL.out,Ih⟩
     case measure=>simp[intOf]; omega
   .rcases (by omega:l[k].1=who\/l[k].1≠who) with he | he
    .have I7:bS who key (acc,true) l[k]=(acc,true):=by
      have hly:eA who key (acc,true) l[k]=(acc,true):=by simp[eA]
      unfold bS;rw[if_neg (by simp[he]),hly]
     have Jb:=Hx (hsn.trans I7)
     have J9:(l[k].1 != who)=false:=by simp[he]
     clear I7 hsn he;go_wp2;go_roundw
     case rel=>exact⟨k+1,by omega,by go_num,by rw[Jb.out],by rw[Jb.out]; exact Ie.out,hb⟩
     case measure=>simp[intOf]; omega
    .have I7:bS who key (acc,true) l[k]=(acc ++ [l[k]],true):=by
      have hly:eA who key (acc,true) l[k]=(acc,true):=by simp[eA]
      unfold bS;rw[if_pos he,hly]
     have Jb:=Hx (hsn.trans I7)
     have J9:(l[k].1 != who)=true:=by simp[he]
     clear I7 hsn he
     have q3:acc.length+1<=maxLen:=by unfold maxLen; omega
     have q4:(acc.length+1)*16<=140737488355328:=by omega
     have q5:∀o,w.heap.size+2<=(wr.alloc o).heap.size:=λo=>by simp; omega
     go_wp2_with (at_builtin; refine wpList_append_own _ rfl (.tmp 45) (.tmp 51) 32 rfl (w.heap.size+2) 144 i0 (.agg #[.int .i64 0,.int .i64 0]) 2 16 Tryz.underlying32 hi Ij Ii Im rfl (by decide) _ _ _ rfl (Ie.out.alloc _) ⟨wr.heap.size,0,none⟩ 1 1 (ah [(l[k].1,l[k].2)]) rfl rfl (fV _ _ _ _ _ rfl) (bC _) q3 q4 (q5 _) ?_);intro v2 w2 Ig Ja _;clear q3 q4 q5;have own2:bX (w.heap.size+2) w2 v2 (acc ++ [l[k]]):=gp Ig;have Ih:=(hb.alloc (by omega) _).grown Ja (by simp; omega) Iy.out;have KL:=Hx own2;have HBLK2:=Hx own2.blk
     have hsz2:w.heap.size+2<=w2.heap.size:=by have:=Ih.size; simpa using this
     clear Ig Ja own2;go_wp2;go_roundw
     case rel=>exact⟨k+1,by omega,by go_num,by rw[Jb.out],by rw[Jb.out]; exact KL.out,Ih⟩
     case measure=>simp[intOf]; omega
  .obtain rfl:k=l.length:=by omega
   simp only[List.take_length]at ec hfl2 ⊢;clear HSN lB
   generalize hF:dA who key l=F at *
   obtain⟨acc,laid⟩:=F;dsimp only at ec hfl2⊢;have HF:=Hx hF;clear hF;have Ie:=Hx ec;have Iy:=Hx ec.blk
   have hfl3:acc.length<=100:=by omega
   cases laid
   .clear ec
    have q3:acc.length+1<=maxLen:=by unfold maxLen; omega
    have q4:(acc.length+1)*16<=140737488355328:=by omega
    have q5:∀o,w.heap.size+2<=(wr.alloc o).heap.size:=λo=>by simp; omega
    go_wp2_with (at_builtin; refine wpList_append_own _ rfl (.tmp 55) (.tmp 59) 32 rfl (w.heap.size+2) 144 i0 (.agg #[.int .i64 0,.int .i64 0]) 2 16 Tryz.underlying32 hi Ij Ii Im rfl (by decide) _ _ _ rfl (Ie.out.alloc _) ⟨wr.heap.size,0,none⟩ 1 1 (ah [(who,key)]) rfl rfl (fV _ _ _ _ _ rfl) (bC _) q3 q4 (q5 _) ?_);intro v1 w1 jZ Il _;clear q3 q4 q5;have own1:bX (w.heap.size+2) w1 v1 (acc ++ [(who,key)]):=gp jZ;have wC:=(hb.alloc (by omega) _).grown Il (by simp; omega) Iy.out;have JC:=Hx own1;have Oo:=Hx own1.blk
    have Lq:w.heap.size+2<=w1.heap.size:=by have:=wC.size; simpa using this
    clear jZ Il own1;obtain⟨a1,p1,JH,pr1,_⟩:=JC.out.shape;subst JH;obtain⟨⟨e01,e11,e21,e31,e41⟩,f01,f11,f21,f31,f41⟩:=bP wC (b:=w.heap.size) (by omega) (heap_alloc2_old w _ _);obtain⟨⟨g01,g11,g21,g31,g41⟩,k01,k11,k21,k31,k41⟩:=bP wC (b:=w.heap.size+1) (by omega) (heap_alloc2_new w _ _);go_wp2;refine bodyPost_ret (v:=dh ⟨g,acc ++ [(who,key)],t,h,st⟩ a1 p1) (by simp[results,Tryz.results102,go_sem,g01,g11,g21,g31,g41]) rfl ?_
    have hfin:gK who key (dA who key l)=acc ++ [(who,key)]:=by rw[HF.out]; simp[gK]
    show ∃a' cap',_=Ending.returned (dh (St.withRegs ⟨g,l,t,h,st⟩ (gK who key (dA who key l))) a' cap')/\bj _ (St.withRegs ⟨g,l,t,h,st⟩ (gK who key (dA who key l))) a'/\_;rw[hfin];refine⟨a1,p1,rfl,⟨?_,?_⟩,?_,?_⟩
    .show(acc ++ [(who,key)]).length<=maxLen; unfold maxLen; simp only[List.length_append,List.length_cons,List.length_nil]; omega
    .have lo:=(show bX _ w1 (.slice a1 _ p1) (acc ++ [(who,key)]) from JC.out).lo
     have hn:∀q:Nat,q<w.heap.size+1+1->∀b o,a1=some ⟨b,o,none⟩->b≠q:=λq hq b o e=>by have:=lo b o e; omega
     refine(?_:bE w1.heap.size _ _ _).mono (by simp[World.setCell])
     iterate 6 (with_reducible refine bE.setCell ?_ (hn _ (by dsimp only; omega)) _)
     exact pr1
    .exact((((((aT (aT wC (by simp)) (by first | (simp; done) | omega)).setCell (Nat.le_refl _) _).setCell (by show w.heap.size<=w.heap.size+1; omega) _).setCell (by show w.heap.size<=w.heap.size+1; omega) _).setCell (by show w.heap.size<=w.heap.size+1; omega) _).setCell (by show w.heap.size<=w.heap.size+1; omega) _).setCell (by show w.heap.size<=w.heap.size+1; omega) _
    .exact λb o e=>by have:=(show bX _ w1 (.slice a1 _ p1) (acc ++ [(who,key)]) from JC.out).lo b o e; omega
   .obtain⟨a1,p1,JH,pr1,_⟩:=ec.shape;subst JH;clear ec;go_wp2;refine bodyPost_ret (v:=dh ⟨g,acc,t,h,st⟩ a1 p1) (by simp[results,Tryz.results102,go_sem,g0,g1,g2,g3,g4]) rfl ?_
    have hfin:gK who key (dA who key l)=acc:=by rw[HF.out]; simp[gK]
    show ∃a' cap',_=Ending.returned (dh (St.withRegs ⟨g,l,t,h,st⟩ (gK who key (dA who key l))) a' cap')/\bj _ (St.withRegs ⟨g,l,t,h,st⟩ (gK who key (dA who key l))) a'/\_;rw[hfin];refine⟨a1,p1,rfl,⟨?_,?_⟩,?_,?_⟩
    .show(acc).length<=maxLen; unfold maxLen; omega
    .have lo:=(show bX _ wr (.slice a1 _ p1) (acc) from Ie.out).lo
     have hn:∀q:Nat,q<w.heap.size+1+1->∀b o,a1=some ⟨b,o,none⟩->b≠q:=λq hq b o e=>by have:=lo b o e; omega
     refine(?_:bE wr.heap.size _ _ _).mono (by simp[World.setCell])
     iterate 6 (with_reducible refine bE.setCell ?_ (hn _ (by dsimp only; omega)) _)
     exact pr1
    .exact((((((aT (aT hb (by simp)) (by first | (simp; done) | omega)).setCell (Nat.le_refl _) _).setCell (by show w.heap.size<=w.heap.size+1; omega) _).setCell (by show w.heap.size<=w.heap.size+1; omega) _).setCell (by show w.heap.size<=w.heap.size+1; omega) _).setCell (by show w.heap.size<=w.heap.size+1; omega) _).setCell (by show w.heap.size<=w.heap.size+1; omega) _
    .exact λb o e=>by have:=(show bX _ wr (.slice a1 _ p1) (acc) from Ie.out).lo b o e; omega
theorem yR(s:St)(a:Option Addr)(cap:Nat)(w:World) : Calls Tryz.prog 35 #[dh s a cap] w λe w'=>e=.returned (.bool (decide (s.regs.length<=6)))/\Below w.heap.size w w':=by
 obtain⟨g,l,t,h,st⟩:=s;go_enter Tryz.func35,Tryz.ntmps35
 go_wp2;go_ret;exact⟨aA (by simp; omega),ay w _⟩
theorem oN(s:St)(a:Option Addr)(cap:Nat)(who:Int)(w:World)(hr:bj w s a) : Calls Tryz.prog 101 #[dh s a cap,.int .i64 who] w λe w'=>e=.returned (.bool (holds s who))/\Below w.heap.size w w':=by
 have Jd:∀o,bj (w.alloc o) s a:=λo=>hr.below (ay w o);by_cases h7:s.typ=7
 .have hh:holds s who=decide (0<keyOf s.regs who):=by simp[holds,h7]
  rw[hh]
  have h7b:(s.typ == 7)=true:=by simp[h7]
  clear hh h7;go_enter Tryz.func101,Tryz.ntmps101
  go_wp2_with fail;refine(ji s a cap who _ (Jd _)).mono ?_;rintro e w2 ⟨rfl,Ih⟩;go_wp2;go_ret;exact⟨rfl,aT Ih (by simp)⟩
 have h7b:(s.typ == 7)=false:=by simp[h7]
 by_cases h8:s.typ=8
 .have hh:holds s who=decide (0<keyOf s.regs who):=by simp[holds,h8]
  rw[hh]
  have h8b:(s.typ == 8)=true:=by simp[h8]
  clear hh h8;go_enter Tryz.func101,Tryz.ntmps101
  go_wp2_with fail;refine(ji s a cap who _ (Jd _)).mono ?_;rintro e w2 ⟨rfl,Ih⟩;go_wp2;go_ret;exact⟨rfl,aT Ih (by simp)⟩
 have hh:holds s who=decide (0<s.typ/\s.holder=who):=by simp[holds,h7,h8]
 rw[hh]
 have h8b:(s.typ == 8)=false:=by simp[h8]
 clear hh;by_cases hz:0<s.typ
 .by_cases hw:s.holder=who
  .subst hw;go_enter Tryz.func101,Tryz.ntmps101
   go_wp2;go_ret;exact⟨aA (by simp[hz]),ay w _⟩
  .have MJ:(s.holder == who)=false:=by simpa using hw
   go_enter Tryz.func101,Tryz.ntmps101
   go_wp2;go_ret;exact⟨aA (by simp[hw]),ay w _⟩
 .go_enter Tryz.func101,Tryz.ntmps101
  go_wp2;go_ret;exact⟨aA (by simp; omega),ay w _⟩
theorem jh(s:St)(a:Option Addr)(cap:Nat)(who:Int)(wr:Bool)(w:World)(hr:bj w s a) : Calls Tryz.prog 56 #[dh s a cap,.int .i64 who,.bool wr] w λe w'=>e=.returned (.bool (eD s who wr))/\Below w.heap.size w w':=by
 have Jd:∀o,bj (w.alloc o) s a:=λo=>hr.below (ay w o);go_enter Tryz.func56,Tryz.ntmps56
 go_wp2_with fail;refine(oN s a cap who _ (Jd _)).mono ?_;rintro e w1 ⟨rfl,wC⟩;obtain⟨hc,hf⟩:=dr wC;have JZ:=(Jd _).below wC;go_wp2_with fail;refine(ji s a cap who _ JZ).mono ?_;rintro e w2 ⟨rfl,Ih⟩;have Io:=wC.trans (Ih.mono (wC.size));obtain⟨hc',hf'⟩:=dr Io;clear hc hf
 have fin:∀b,b=eD s who wr->Ending.returned (.bool b)=Ending.returned (.bool (eD s who wr))/\Below w.heap.size w w2:=λb h=>⟨aA h,aT Io (by simp)⟩
 have FIN:=Hx fin;clear fin;by_cases h0:s.typ=0
 .go_wp2;go_ret;exact FIN.out _ (by simp[eD,h0])
 have h0':(s.typ == 0)=false:=by simpa using h0
 by_cases h1:s.typ=1
 .cases hh:holds s who
  .have HH:=Hx hh;go_wp2;go_ret;exact FIN.out _ (by simp[eD,h1,HH.out])
  .have HH:=Hx hh;go_wp2;go_ret;exact FIN.out _ (by simp[eD,h1,HH.out])
 have Ns:(s.typ == 1)=false:=by simpa using h1
 by_cases h3:s.typ=3
 .go_wp2;go_ret;exact FIN.out _ (by simp[eD,h3])
 have h3':(s.typ == 3)=false:=by simpa using h3
 by_cases h5:s.typ=5
 .by_cases hq:0<keyOf s.regs who
  .have MQ:decide (0<keyOf s.regs who)=true:=by simpa using hq
   go_wp2;go_ret;exact FIN.out _ (by simp[eD,h5,hq])
  .have MQ:decide (0<keyOf s.regs who)=false:=by simpa using hq
   go_wp2;go_ret;exact FIN.out _ (by simp[eD,h5]; intro h; omega)
 have h5':(s.typ == 5)=false:=by simpa using h5
 by_cases h7:s.typ=7
 .by_cases hq:0<keyOf s.regs who
  .have MQ:decide (0<keyOf s.regs who)=true:=by simpa using hq
   go_wp2;go_ret;exact FIN.out _ (by simp[eD,h7,hq])
  .have MQ:decide (0<keyOf s.regs who)=false:=by simpa using hq
   go_wp2;go_ret;exact FIN.out _ (by simp[eD,h7]; intro h; omega)
 have h7':(s.typ == 7)=false:=by simpa using h7
 go_wp2;go_ret;exact FIN.out _ (by simp[eD,h0,h1,h3,h5,h7])
def bD(m:St->Int->Bool->Bool)(s t:St)(who:Int)(b:Bool):Bool:=m s who b && !m t who b
def cG(m:St->Int->Bool->Bool)(s t:St):Bool:=(List.range 4).any λj=>bD m s t ((j:Int)+1) false || bD m s t ((j:Int)+1) true
theorem jM{m:St->Int->Bool->Bool}{s t:St}{k:Nat}{b:Bool}(hk:k<4)(h:bD m s t ((k:Int)+1) b=true):cG m s t=true:=by unfold cG;rw[List.any_eq_true];exact⟨k,List.mem_range.2 hk,by cases b<;>rw[h]<;>simp⟩
theorem o8{m:St->Int->Bool->Bool}{s t:St}(h:∀j:Nat,j<4->∀b,bD m s t ((j:Int)+1) b=false):cG m s t=false:=by unfold cG;rw[List.any_eq_false];intro j hj;rw[h j (List.mem_range.1 hj),h j (List.mem_range.1 hj)];decide
theorem qN{m:St->Int->Bool->Bool}{s t:St}{k:Nat}(h:∀j:Nat,j<k->∀b,bD m s t ((j:Int)+1) b=false)(h0:bD m s t ((k:Int)+1) false=false)(h1:bD m s t ((k:Int)+1) true=false):∀j:Nat,j<k+1->∀b,bD m s t ((j:Int)+1) b=false:=by
 intro j hj b
 rcases (by omega:j<k\/j=k) with hj | rfl
 .exact h j hj b
 .cases b<;>assumption
theorem vT{m m':St->Int->Bool->Bool}{s t:St}(hs:∀who b,m s who b=m' s who b)(ht:∀who b,m t who b=m' t who b):cG m s t=cG m' s t:=by unfold cG bD; simp only[hs,ht]
theorem pJ{w:World}{b:Nat}{v0 v1 v2 v3 v4:Value}{T:TypeId}(h:w.heap[b]?=some (.cells #[v0,v1,v2,v3,v4] T (0,0))):w.cell? ⟨b,0,none⟩=some v0/\w.cell? ⟨b,1,none⟩=some v1/\w.cell? ⟨b,2,none⟩=some v2/\w.cell? ⟨b,3,none⟩=some v3/\w.cell? ⟨b,4,none⟩=some v4 :=
 (bP (Below.refl (b+1) w) (by omega) h).1
theorem Bm(s t:St)(a b:Option Addr)(cap cbp:Nat)(w:World)(hs:bj w s a)(ht:bj w t b) : Calls Tryz.prog 87 #[dh s a cap,dh t b cbp,.func (.func 44) #[] #[]] w λe w'=>e=.returned (.bool (cG ce s t))/\Below w.heap.size w w':=by
 have HS:=Hx hs;have HT:=Hx ht;clear hs ht;go_enter Tryz.func87,Tryz.ntmps87
 go_wp2;go_loopw [7] (λi wr=>∃k:Nat,k<=4/\i=.int .i64 ((k:Int)+1)/\(∀j:Nat,j<k->∀b,bD ce s t ((j:Int)+1) b=false)/\Below ((w.alloc (.cells #[.int .i64 s.gen,.slice a s.regs.length cap,.int .i64 s.typ,.int .i64 s.holder,.bool s.stays] 34)).alloc (.cells #[.int .i64 t.gen,.slice b t.regs.length cbp,.int .i64 t.typ,.int .i64 t.holder,.bool t.stays] 34)).heap.size ((w.alloc (.cells #[.int .i64 s.gen,.slice a s.regs.length cap,.int .i64 s.typ,.int .i64 s.holder,.bool s.stays] 34)).alloc (.cells #[.int .i64 t.gen,.slice b t.regs.length cbp,.int .i64 t.typ,.int .i64 t.holder,.bool t.stays] 34)) wr) (λi _=>(5 - intOf i).toNat)
 case atStart=>exact⟨0,by omega,rfl,λj hj=>by omega,Below.refl _ _⟩
 case round =>
  obtain⟨k,hk,rfl,hN,hb⟩:=hrel;have HN:=Hx hN;have HB:=Hx hb
  have hz:w.heap.size+1<wr.heap.size:=by have:=hb.size; simp at this; omega
  have Ij:w.heap.size<wr.heap.size:=by omega
  have Jj:=Hs (Below w.heap.size w wr) (((ay w _).alloc (by simp) _).trans (hb.mono (by simp; omega)));have HA:=Hx ((hb.block w.heap.size (by simp<;>omega)).trans (heap_alloc2_old w _ _));have HC:=Hx ((hb.block (w.heap.size+1) (by simp<;>omega)).trans (heap_alloc2_new w _ _));clear hN hb;by_cases h4:k<4
  .have h4b:decide ((k:Int)+1<=4)=true:=by simp; omega
   go_wp2
   obtain⟨wo,rfl⟩:∃wo:World,wo=wr:=⟨_,rfl⟩
   go_loopw [16] (λi wz=>∃m:Nat,m<=2/\i=.int .i64 m/\((0<m->bD ce s t ((k:Int)+1) false=false)/\(1<m->bD ce s t ((k:Int)+1) true=false))/\Below (wo.alloc (.cells #[.bool false,.bool true] 4)).heap.size (wo.alloc (.cells #[.bool false,.bool true] 4)) wz) (λi _=>(2 - intOf i).toNat)
   case atStart=>exact⟨0,by omega,rfl,⟨λh=>by omega,λh=>by omega⟩,Below.refl _ _⟩
   case round =>
    obtain⟨m,hm,rfl,hM,hi⟩:=hrel;have HM:=Hx hM;have HI:=Hx hi
    have hsz:wo.heap.size<wr.heap.size:=by have:=hi.size; simp at this; omega
    have Ii:w.heap.size+1<wr.heap.size:=by omega
    have Im:w.heap.size<wr.heap.size:=by omega
    have HWR:=Hs (Below w.heap.size w wr) (Jj.out.trans (((ay wo _).trans (hi.mono (ay wo _).size)).mono Jj.out.size));have HSW:=Hx (HS.out.below HWR.out);have HTW:=Hx (HT.out.below HWR.out);have HA5:=Hx (((hi.block _ (by simp; omega)).trans ((ay wo _).block _ Ij)).trans HA.out);have On:=Hx (((hi.block _ (by simp; omega)).trans ((ay wo _).block _ hz)).trans HC.out);have HF5:=Hx ((hi.block wo.heap.size (by simp)).trans (heap_alloc_new wo _));clear hM hi;obtain⟨d0,d1,d2,d3,d4⟩:=pJ HA5.out;obtain⟨e0,e1,e2,e3,e4⟩:=pJ On.out
    have hf0:wr.cell? ⟨wo.heap.size,0,none⟩=some (.bool false):=by simp[World.cell?,HF5.out]
    have hf1:wr.cell? ⟨wo.heap.size,1,none⟩=some (.bool true):=by simp[World.cell?,HF5.out]
    rcases (by omega:m=0\/m=1\/m=2) with rfl | rfl | rfl
    .skip
     have hpm:∃p,ce s ((k:Int)+1) false=p:=⟨_,rfl⟩
     obtain⟨p,hp⟩:=hpm;have HP:=Hx hp;clear hp;go_wp2_with fail;refine(lF s a cap ((k:Int)+1) false _ HSW.out).mono ?_;rintro e w5 ⟨rfl,b5⟩;rw[HP.out];cases p
     .have HX:=Hs (bD ce s t ((k:Int)+1) false=false) (by unfold bD; rw[HP.out]; rfl);have B5:=Hx (HI.out.trans (b5.mono HI.out.size));clear b5;go_wp2;go_roundw
      case rel=>exact⟨0+1,by omega,by go_num,⟨λ_=>HX.out,λh=>by omega⟩,B5.out⟩
      case measure=>simp[intOf]
     .obtain⟨e0,e1,e2,e3,e4⟩:=pJ ((b5.block _ Ii).trans On.out)
      have hq:∃q,ce t ((k:Int)+1) false=q:=⟨_,rfl⟩
      obtain⟨q,hq⟩:=hq;have HQ:=Hx hq;have IR:=Hx b5;clear hq b5;go_wp2_with fail;refine(lF t b cbp ((k:Int)+1) false _ (HTW.out.below IR.out)).mono ?_;rintro e w6 ⟨rfl,b6⟩;rw[HQ.out];have B6:=Hx (HI.out.trans ((IR.out.trans (b6.mono IR.out.size)).mono HI.out.size));clear b6;cases q
      .have HX:=Hs (cG ce s t=true) (jM (b:=false) h4 (by unfold bD; rw[HP.out,HQ.out]; rfl));go_wp2;go_ret;exact⟨aA HX.out.symm,Jj.out.trans (((ay wo _).trans (B6.out.mono (ay wo _).size)).mono Jj.out.size)⟩
      .have HX:=Hs (bD ce s t ((k:Int)+1) false=false) (by unfold bD; rw[HP.out,HQ.out]; rfl);go_wp2;go_roundw
       case rel=>exact⟨0+1,by omega,by go_num,⟨λ_=>HX.out,λh=>by omega⟩,B6.out⟩
       case measure=>simp[intOf]
    .skip
     have hpm:∃p,ce s ((k:Int)+1) true=p:=⟨_,rfl⟩
     obtain⟨p,hp⟩:=hpm;have HP:=Hx hp;clear hp;go_wp2_with fail;refine(lF s a cap ((k:Int)+1) true _ HSW.out).mono ?_;rintro e w5 ⟨rfl,b5⟩;rw[HP.out];cases p
     .have HX:=Hs (bD ce s t ((k:Int)+1) true=false) (by unfold bD; rw[HP.out]; rfl);have B5:=Hx (HI.out.trans (b5.mono HI.out.size));clear b5;go_wp2;go_roundw
      case rel=>exact⟨1+1,by omega,by go_num,⟨λ_=>HM.out.1 (by omega),λ_=>HX.out⟩,B5.out⟩
      case measure=>simp[intOf]
     .obtain⟨e0,e1,e2,e3,e4⟩:=pJ ((b5.block _ Ii).trans On.out)
      have hq:∃q,ce t ((k:Int)+1) true=q:=⟨_,rfl⟩
      obtain⟨q,hq⟩:=hq;have HQ:=Hx hq;have IR:=Hx b5;clear hq b5;go_wp2_with fail;refine(lF t b cbp ((k:Int)+1) true _ (HTW.out.below IR.out)).mono ?_;rintro e w6 ⟨rfl,b6⟩;rw[HQ.out];have B6:=Hx (HI.out.trans ((IR.out.trans (b6.mono IR.out.size)).mono HI.out.size));clear b6;cases q
      .have HX:=Hs (cG ce s t=true) (jM (b:=true) h4 (by unfold bD; rw[HP.out,HQ.out]; rfl));go_wp2;go_ret;exact⟨aA HX.out.symm,Jj.out.trans (((ay wo _).trans (B6.out.mono (ay wo _).size)).mono Jj.out.size)⟩
      .have HX:=Hs (bD ce s t ((k:Int)+1) true=false) (by unfold bD; rw[HP.out,HQ.out]; rfl);go_wp2;go_roundw
       case rel=>exact⟨1+1,by omega,by go_num,⟨λ_=>HM.out.1 (by omega),λ_=>HX.out⟩,B6.out⟩
       case measure=>simp[intOf]
    .go_wp2;go_roundw
     case rel=>exact⟨k+1,by omega,by go_num,qN HN.out (HM.out.1 (by omega)) (HM.out.2 (by omega)),HB.out.trans (((ay wo _).trans ((HI.out).mono (ay wo _).size)).mono HB.out.size)⟩
     case measure=>simp[intOf]; omega
  .have:=o8 (λj hj=>HN.out j (by omega));have HF:=Hx this;clear this;go_wp2;go_ret;exact⟨aA HF.out.symm,Jj.out⟩
theorem yr(s t:St)(a b:Option Addr)(cap cbp:Nat)(w:World)(hs:bj w s a)(ht:bj w t b) : Calls Tryz.prog 54 #[dh s a cap,dh t b cbp] w λe w'=>e=.returned (.bool (cG eD s t))/\Below w.heap.size w w':=by
 have HS:=Hx hs;have HT:=Hx ht;clear hs ht;go_enter Tryz.func54,Tryz.ntmps54
 go_wp2;go_loopw [5,6] (λi _ wr=>∃k:Nat,k<=4/\i=.int .i64 ((k:Int)+1)/\(∀j:Nat,j<k->∀b,bD eD s t ((j:Int)+1) b=false)/\Below ((w.alloc (.cells #[.int .i64 s.gen,.slice a s.regs.length cap,.int .i64 s.typ,.int .i64 s.holder,.bool s.stays] 34)).alloc (.cells #[.int .i64 t.gen,.slice b t.regs.length cbp,.int .i64 t.typ,.int .i64 t.holder,.bool t.stays] 34)).heap.size ((w.alloc (.cells #[.int .i64 s.gen,.slice a s.regs.length cap,.int .i64 s.typ,.int .i64 s.holder,.bool s.stays] 34)).alloc (.cells #[.int .i64 t.gen,.slice b t.regs.length cbp,.int .i64 t.typ,.int .i64 t.holder,.bool t.stays] 34)) wr) (λi _ _=>(5 - intOf i).toNat)
 case atStart=>exact⟨0,by omega,rfl,λj hj=>by omega,Below.refl _ _⟩
 case round =>
  obtain⟨k,hk,rfl,hN,hb⟩:=hrel;have HN:=Hx hN;have HB:=Hx hb
  have hz:w.heap.size+1<wr.heap.size:=by have:=hb.size; simp at this; omega
  have Ij:w.heap.size<wr.heap.size:=by omega
  have Jj:=Hs (Below w.heap.size w wr) (((ay w _).alloc (by simp) _).trans (hb.mono (by simp; omega)));have HA:=Hx ((hb.block w.heap.size (by simp<;>omega)).trans (heap_alloc2_old w _ _));have HC:=Hx ((hb.block (w.heap.size+1) (by simp<;>omega)).trans (heap_alloc2_new w _ _));clear hN hb;by_cases h4:k<4
  .have h4b:decide ((k:Int)+1<=4)=true:=by simp; omega
   go_wp2
   obtain⟨wo,rfl⟩:∃wo:World,wo=wr:=⟨_,rfl⟩
   go_loopw [6,7] (λi _ wz=>∃m:Nat,m<=2/\i=.int .i64 m/\((0<m->bD eD s t ((k:Int)+1) false=false)/\(1<m->bD eD s t ((k:Int)+1) true=false))/\Below wo.heap.size wo wz) (λi _ _=>2 - (intOf i).toNat)
   case atStart=>exact⟨0,by omega,rfl,⟨λh=>by omega,λh=>by omega⟩,Below.refl _ _⟩
   case round =>
    obtain⟨m,hm,rfl,hM,hi⟩:=hrel;have HM:=Hx hM;have HI:=Hx hi;have hsz:wo.heap.size<=wr.heap.size:=hi.size
    have Ii:w.heap.size+1<wr.heap.size:=by omega
    have HWR:=Hs (Below w.heap.size w wr) (Jj.out.trans (hi.mono Jj.out.size));have HSW:=Hx (HS.out.below HWR.out);have HTW:=Hx (HT.out.below HWR.out);have HA5:=Hx ((hi.block _ Ij).trans HA.out);have On:=Hx ((hi.block _ hz).trans HC.out);clear hM hi;obtain⟨d0,d1,d2,d3,d4⟩:=pJ HA5.out
    rcases (by omega:m=0\/m=1\/m=2) with rfl | rfl | rfl
    .skip
     obtain⟨p,hp⟩:=Nm (eD s ((k:Int)+1) false);obtain⟨q,hq⟩:=Nm (eD t ((k:Int)+1) false);have HP:=Hx hp;have HQ:=Hx hq;clear hp hq;go_wp2_with fail;refine(jh s a cap ((k:Int)+1) false _ HSW.out).mono ?_;rintro e w5 ⟨rfl,b5⟩;rw[HP.out];obtain⟨e0,e1,e2,e3,e4⟩:=pJ ((b5.block _ Ii).trans On.out);have IR:=Hx b5;clear b5;go_wp2_with fail;refine(jh t b cbp ((k:Int)+1) false _ (HTW.out.below IR.out)).mono ?_;rintro e w6 ⟨rfl,b6⟩;rw[HQ.out];have B6:=Hx (HI.out.trans ((IR.out.trans (b6.mono IR.out.size)).mono HI.out.size));clear b6;cases p
     .have HX:=Hs (bD eD s t ((k:Int)+1) false=false) (by unfold bD; rw[HP.out]; rfl);go_wp2;go_roundw
      case rel=>exact⟨0+1,by omega,by go_num,⟨λ_=>HX.out,λh=>by omega⟩,B6.out⟩
      case measure=>simp[intOf]
     .cases q
      .have HX:=Hs (cG eD s t=true) (jM (b:=false) h4 (by unfold bD; rw[HP.out,HQ.out]; rfl));go_wp2;go_ret;exact⟨aA HX.out.symm,Jj.out.trans (B6.out.mono Jj.out.size)⟩
      .have HX:=Hs (bD eD s t ((k:Int)+1) false=false) (by unfold bD; rw[HP.out,HQ.out]; rfl);go_wp2;go_roundw
       case rel=>exact⟨0+1,by omega,by go_num,⟨λ_=>HX.out,λh=>by omega⟩,B6.out⟩
       case measure=>simp[intOf]
    .skip
     obtain⟨p,hp⟩:=Nm (eD s ((k:Int)+1) true);obtain⟨q,hq⟩:=Nm (eD t ((k:Int)+1) true);have HP:=Hx hp;have HQ:=Hx hq;clear hp hq;go_wp2_with fail;refine(jh s a cap ((k:Int)+1) true _ HSW.out).mono ?_;rintro e w5 ⟨rfl,b5⟩;rw[HP.out];obtain⟨e0,e1,e2,e3,e4⟩:=pJ ((b5.block _ Ii).trans On.out);have IR:=Hx b5;clear b5;go_wp2_with fail;refine(jh t b cbp ((k:Int)+1) true _ (HTW.out.below IR.out)).mono ?_;rintro e w6 ⟨rfl,b6⟩;rw[HQ.out];have B6:=Hx (HI.out.trans ((IR.out.trans (b6.mono IR.out.size)).mono HI.out.size));clear b6;cases p
     .have HX:=Hs (bD eD s t ((k:Int)+1) true=false) (by unfold bD; rw[HP.out]; rfl);go_wp2;go_roundw
      case rel=>exact⟨1+1,by omega,by go_num,⟨λ_=>HM.out.1 (by omega),λ_=>HX.out⟩,B6.out⟩
      case measure=>simp[intOf]
     .cases q
      .have HX:=Hs (cG eD s t=true) (jM (b:=true) h4 (by unfold bD; rw[HP.out,HQ.out]; rfl));go_wp2;go_ret;exact⟨aA HX.out.symm,Jj.out.trans (B6.out.mono Jj.out.size)⟩
      .have HX:=Hs (bD eD s t ((k:Int)+1) true=false) (by unfold bD; rw[HP.out,HQ.out]; rfl);go_wp2;go_roundw
       case rel=>exact⟨1+1,by omega,by go_num,⟨λ_=>HM.out.1 (by omega),λ_=>HX.out⟩,B6.out⟩
       case measure=>simp[intOf]
    .go_wp2;go_roundw
     case rel=>exact⟨k+1,by omega,by go_num,qN HN.out (HM.out.1 (by omega)) (HM.out.2 (by omega)),HB.out.trans (HI.out.mono HB.out.size)⟩
     case measure=>simp[intOf]; omega
  .have:=o8 (λj hj=>HN.out j (by omega));have HF:=Hx this;clear this;go_wp2;go_ret;exact⟨aA HF.out.symm,Jj.out⟩
