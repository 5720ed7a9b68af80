import Derived.Test.YtjalgpcigojpkaaGreatDoorQ14
import Derived.Deep.CutBlock
set_option maxRecDepth 99999
set_option maxHeartbeats 99999999
namespace Go.Proofs.YtjalgpcigojpkaaGreatDoor
section
open Go.RowKit Go.Sort
def Hj (c:bG):Int:=if ew c.data=true/\ew c.want=true then 0 else 2
def GM (c:bG):Int:=if 8<c.data.size\/8<c.want.size then 1 else Hj c
def fz(c:bG):Bool :=
 (decide (c.op=3\/c.op=4\/c.op=6) && !aU c.typ) || (decide (¬ (c.op=3\/c.op=4\/c.op=6)) && decide (c.typ≠0)) || (decide (2<c.op) && c.stays) || (decide (c.op<8) && decide (c.data.size≠0)) || (decide (c.op<9) && decide (c.want.size≠0))
def Gk (c:bG):Int:=if fz c=true then 2 else GM c
def stage(has:Bool)(x most:Int)(rest:Int):Int:=if has=false/\x≠0 then 2 else if x<0\/most<x then 1 else rest
def Hl (c:bG):Int:=stage (decide (7<=c.op)) c.at' 7 (Gk c)
def Hk (c:bG):Int:=stage (decide (c.op=1\/c.op=2\/c.op=6)) c.new 999 (Hl c)
def G0 (c:bG):Int:=stage (decide (c.op<=6)) c.key 999 (Hk c)
def aB(c:bG):Int:=if c.op<1\/9<c.op then 2 else if c.who<1\/4<c.who then 1 else G0 c
theorem uE(n:Nat)(h:1<=n/\n<=9):hasB n 107=decide ((n:Int)<=6)/\hasB n 110=decide ((n:Int)=1\/(n:Int)=2\/(n:Int)=6)/\hasB n 97=decide (7<=(n:Int))/\hasB n 116=decide ((n:Int)=3\/(n:Int)=4\/(n:Int)=6)/\hasB n 115=decide (¬ 2<(n:Int))/\hasB n 100=decide (¬ (n:Int)<8)/\hasB n 119=decide (¬ (n:Int)<9):=by rcases (by omega:n=1\/n=2\/n=3\/n=4\/n=5\/n=6\/n=7\/n=8\/n=9) with rfl | rfl | rfl | rfl | rfl | rfl | rfl | rfl | rfl<;>decide +kernel
theorem jt(n:Nat)(h:1<=n/\n<=9)(c:Int)(p:UInt8)(hc:c.toNat.toUInt8=p)(b:Bool)(hb:hasB n p=b)(w:World) : Calls Tryz.prog 81 #[.int .i64 n,.int .u8 c] w λe w'=>e=.returned (.bool b)/\Below w.heap.size w w':=by
 subst hb; exact En n h c p hc w
theorem nZ(n:Int)(b:Bool)(hb:aU n=b)(w:World) : Calls Tryz.prog 82 #[.int .i64 n] w λe w'=>e=.returned (.bool b)/\Below w.heap.size w w':=by
 subst hb; exact fY n w
abbrev kU(c:bG):Array Value:=#[.int .i64 c.op,.int .i64 c.who,.int .i64 c.key,.int .i64 c.new,.int .i64 c.typ,.int .i64 c.at',.bool c.stays,.string c.data,.string c.want]
theorem eR{w:World}{b:Nat}{c:bG}{T:TypeId}(h:w.heap[b]?=some (.cells (kU c) T (0,0))) : w.cell? ⟨b,0,none⟩=some (.int .i64 c.op)/\w.cell? ⟨b,1,none⟩=some (.int .i64 c.who)/\w.cell? ⟨b,2,none⟩=some (.int .i64 c.key)/\w.cell? ⟨b,3,none⟩=some (.int .i64 c.new)/\w.cell? ⟨b,4,none⟩=some (.int .i64 c.typ)/\w.cell? ⟨b,5,none⟩=some (.int .i64 c.at')/\w.cell? ⟨b,6,none⟩=some (.bool c.stays)/\w.cell? ⟨b,7,none⟩=some (.string c.data)/\w.cell? ⟨b,8,none⟩=some (.string c.want):=by
 simp[World.cell?,h]
abbrev Ak(c:bG):Array Value:=#[.int .u8 107,.int .i64 c.key,.int .i64 999,.int .u8 110,.int .i64 c.new,.int .i64 999,.int .u8 97,.int .i64 c.at',.int .i64 7]
theorem GV{w:World}{b:Nat}{c:bG}{T:TypeId}(h:w.heap[b]?=some (.cells (Ak c) T (0,0))) : w.cell? ⟨b,0,none⟩=some (.int .u8 107)/\w.cell? ⟨b,1,none⟩=some (.int .i64 c.key)/\w.cell? ⟨b,2,none⟩=some (.int .i64 999)/\w.cell? ⟨b,3,none⟩=some (.int .u8 110)/\w.cell? ⟨b,4,none⟩=some (.int .i64 c.new)/\w.cell? ⟨b,5,none⟩=some (.int .i64 999)/\w.cell? ⟨b,6,none⟩=some (.int .u8 97)/\w.cell? ⟨b,7,none⟩=some (.int .i64 c.at')/\w.cell? ⟨b,8,none⟩=some (.int .i64 7):=by
 simp[World.cell?,h]
def xl(c:bG):Nat->Int
 | 0=>G0 c
 | 1=>Hk c
 | 2=>Hl c
 | _=>Gk c
theorem jE{b:Bool}{x m r:Int}(hb:b=false)(hx:x≠0):stage b x m r=2:=by unfold stage; rw[if_pos ⟨hb,hx⟩]
theorem dU{b:Bool}{x m r:Int}(hb:¬ (b=false/\x≠0))(hx:x<0\/m<x):stage b x m r=1:=by unfold stage; rw[if_neg hb,if_pos hx]
theorem eI{b:Bool}{x m r:Int}(hb:¬ (b=false/\x≠0))(hx:¬ (x<0\/m<x)):stage b x m r=r:=by unfold stage; rw[if_neg hb,if_neg hx]
def cy(c:bG)(w:World)(e:Ending)(w':World):Prop:=e=.returned (bg (aB c))/\Below w.heap.size w w'
theorem cy.err{c:bG}{w w':World}{f:Int}(h:aB c=f)(hf:f≠0)(hb:Below w.heap.size w w'):cy c w (.returned (.iface 108 (.int .i64 f))) w':=⟨fO h hf,hb⟩
theorem cy.ok{c:bG}{w w':World}(h:aB c=0)(hb:Below w.heap.size w w'):cy c w (.returned .nilIface) w':=⟨xk h,hb⟩
theorem fS(d:ByteArray):(!d.toList.isEmpty)=decide (d.size≠0):=by
 rw[ByteArray.toList_eq]
 cases d with | mk a=>cases a with | mk l=>cases l<;>simp[ByteArray.size]
theorem bad_eq(n:Nat)(h:1<=n/\n<=9)(who key new typ at_:Int)(stays:Bool)(data want:ByteArray) : fz ⟨n,who,key,new,typ,at_,stays,data,want⟩=((bif hasB n 116 then !aU typ else(aU typ || decide (typ≠0))) || (!hasB n 115 && stays) || (!hasB n 100 && decide (data.size≠0)) || (!hasB n 119 && decide (want.size≠0))):=by
 have ht:aU typ=true->typ≠0:=by intro h e; subst e; simp[aU]at h
 obtain⟨-,-,-,e1,e2,e3,e4⟩:=uE n h;rw[e1,e2,e3,e4];unfold fz;simp only[decide_not,Bool.not_not];by_cases hk:(n:Int)=3\/(n:Int)=4\/(n:Int)=6
 .simp[hk]
 .cases hm:aU typ
  .simp[hk]
  .have:=ht hm;simp[hk,this]
theorem wR(c:bG)(w:World)(hs:c.data.size<=9223372036854775807/\c.want.size<=9223372036854775807) : Calls Tryz.prog 41 #[eX c] w (cy c w):=by
 obtain⟨op,who,key,new,typ,at_,stays,data,want⟩:=c;by_cases h0:op<1\/9<op
 .have HF:=Hs (aB ⟨op,who,key,new,typ,at_,stays,data,want⟩=2) (if_pos h0);by_cases h1:op<1
  .go_enter Tryz.func41,Tryz.ntmps41
   go_wp2;go_ret;exact cy.err HF.out (by omega) (ay w _)
  .have h2:9<op:=by omega
   go_enter Tryz.func41,Tryz.ntmps41
   go_wp2;go_ret;exact cy.err HF.out (by omega) (ay w _)
 have HF0:=Hs (aB ⟨op,who,key,new,typ,at_,stays,data,want⟩=(if who<1\/4<who then 1 else G0 ⟨op,who,key,new,typ,at_,stays,data,want⟩)) (if_neg h0);obtain⟨n,rfl⟩:=Int.eq_ofNat_of_zero_le (show 0<=op by omega)
 have hn:1<=n/\n<=9:=by omega
 have hn1:¬ (n:Int)<1:=by omega
 have hn9:¬ 9<(n:Int):=by omega
 have HH:=Hx (uE n hn);clear h0;by_cases hw:who<1\/4<who
 .have HF:=Hx (HF0.out.trans (if_pos hw));by_cases h1:who<1
  .go_enter Tryz.func41,Tryz.ntmps41
   go_wp2;go_ret;exact cy.err HF.out (by omega) (ay w _)
  .have h2:4<who:=by omega
   go_enter Tryz.func41,Tryz.ntmps41
   go_wp2;go_ret;exact cy.err HF.out (by omega) (ay w _)
 have pX:¬ who<1:=by omega
 have Iq:¬ 4<who:=by omega
 have HF1:=Hx (HF0.out.trans (if_neg hw));clear HF0 hw;go_enter Tryz.func41,Tryz.ntmps41
 go_wp2;go_loopw [36] (λi wr=>∃k:Nat,k<=3/\i=.int .i64 k/\aB ⟨n,who,key,new,typ,at_,stays,data,want⟩=xl ⟨n,who,key,new,typ,at_,stays,data,want⟩ k/\Below (w.heap.size+2) ((w.alloc (.cells (kU ⟨n,who,key,new,typ,at_,stays,data,want⟩) 39)).alloc (.cells (Ak ⟨n,who,key,new,typ,at_,stays,data,want⟩) 158)) wr) (λi _=>(3 - intOf i).toNat)
 case atStart=>exact⟨0,by omega,rfl,HF1.out,Below.refl _ _⟩
 case round =>
  obtain⟨k,hk,rfl,hF,hb⟩:=hrel;have HF:=Hx hF;have HB:=Hx hb
  have hz:w.heap.size+2<=wr.heap.size:=by have:=hb.size; simp at this; omega
  have Ij:w.heap.size<wr.heap.size:=by omega
  have Ii:w.heap.size+1<wr.heap.size:=by omega
  have HC:=Hx ((hb.block w.heap.size (by omega)).trans (heap_alloc2_old w _ _));have HT:=Hx ((hb.block (w.heap.size+1) (by omega)).trans (heap_alloc2_new w _ _));have Jj:=Hs (Below w.heap.size w wr) (((ay w _).alloc (by simp) _).trans (hb.mono (by omega)));clear hF hb;obtain⟨c0,c1,c2,c3,c4,c5,c6,c7,c8⟩:=eR HC.out;obtain⟨t0,t1,t2,t3,t4,t5,t6,t7,t8⟩:=GV HT.out
  rcases (by omega:k=0\/k=1\/k=2\/k=3) with rfl | rfl | rfl | rfl
  .obtain⟨b,hb⟩:=Nm (hasB n 107);have HQ:=Hs (aB ⟨n,who,key,new,typ,at_,stays,data,want⟩=stage b key 999 (xl ⟨n,who,key,new,typ,at_,stays,data,want⟩ 1)) (HF.out.trans (by rw[<-hb,HH.out.1]; rfl));have Kt:=Hx hb;clear hb;go_wp2_with fail;refine(jt n hn 107 107 (by decide) b Kt.out _).mono ?_;rintro e w5 ⟨rfl,b5⟩;have B5:=Hs (Below (w.heap.size+2) ((w.alloc (.cells (kU ⟨n,who,key,new,typ,at_,stays,data,want⟩) 39)).alloc (.cells (Ak ⟨n,who,key,new,typ,at_,stays,data,want⟩) 158)) w5) (HB.out.trans (((ay wr _).trans (b5.mono (ay wr _).size)).mono (by omega)));have BW5:=Hx (Jj.out.trans (((ay wr _).trans (b5.mono (ay wr _).size)).mono Jj.out.size));have H3:=Hx ((b5.block wr.heap.size (by simp)).trans (heap_alloc_new wr _));clear b5 c0 c1 c2 c3 c4 c5 c6 c7 c8 t0 t1 t2 t3 t4 t5 t6 t7 t8
   have r1:w5.cell? ⟨wr.heap.size,1,none⟩=some (.int .i64 key):=by simp[World.cell?,H3.out]
   have r2:w5.cell? ⟨wr.heap.size,2,none⟩=some (.int .i64 999):=by simp[World.cell?,H3.out]
   cases b
   .by_cases hx:key=0
    .have HN:=Hx (HQ.out.trans (eI (λh=>h.2 hx) (by omega)))
     have e1:(key != 0)=false:=by simp[hx]
     have e2:¬ key<0:=by omega
     have e3:¬ 999<key:=by omega
     clear hx;go_wp2;go_roundw
     case rel=>exact⟨1,by omega,by go_num,HN.out,B5.out⟩
     case measure=>simp[intOf]
    .have HN:=Hx (HQ.out.trans (jE rfl hx))
     have e1:(key != 0)=true:=by simp[hx]
     clear hx;go_wp2;go_ret;exact cy.err HN.out (by omega) BW5.out
   .by_cases hx:key<0\/999<key
    .have HN:=Hx (HQ.out.trans (dU (λh=>by cases h.1) hx));by_cases e2:key<0
     .clear hx;go_wp2;go_ret;exact cy.err HN.out (by omega) BW5.out
     .have e3:999<key:=by omega
      clear hx;go_wp2;go_ret;exact cy.err HN.out (by omega) BW5.out
    .have HN:=Hx (HQ.out.trans (eI (λh=>by cases h.1) hx))
     have e2:¬ key<0:=by omega
     have e3:¬ 999<key:=by omega
     clear hx;go_wp2;go_roundw
     case rel=>exact⟨1,by omega,by go_num,HN.out,B5.out⟩
     case measure=>simp[intOf]
  .obtain⟨b,hb⟩:=Nm (hasB n 110);have HQ:=Hs (aB ⟨n,who,key,new,typ,at_,stays,data,want⟩=stage b new 999 (xl ⟨n,who,key,new,typ,at_,stays,data,want⟩ 2)) (HF.out.trans (by rw[<-hb,HH.out.2.1]; rfl));have Kt:=Hx hb;clear hb;go_wp2_with fail;refine(jt n hn 110 110 (by decide) b Kt.out _).mono ?_;rintro e w5 ⟨rfl,b5⟩;have B5:=Hs (Below (w.heap.size+2) ((w.alloc (.cells (kU ⟨n,who,key,new,typ,at_,stays,data,want⟩) 39)).alloc (.cells (Ak ⟨n,who,key,new,typ,at_,stays,data,want⟩) 158)) w5) (HB.out.trans (((ay wr _).trans (b5.mono (ay wr _).size)).mono (by omega)));have BW5:=Hx (Jj.out.trans (((ay wr _).trans (b5.mono (ay wr _).size)).mono Jj.out.size));have H3:=Hx ((b5.block wr.heap.size (by simp)).trans (heap_alloc_new wr _));clear b5 c0 c1 c2 c3 c4 c5 c6 c7 c8 t0 t1 t2 t3 t4 t5 t6 t7 t8
   have r1:w5.cell? ⟨wr.heap.size,1,none⟩=some (.int .i64 new):=by simp[World.cell?,H3.out]
   have r2:w5.cell? ⟨wr.heap.size,2,none⟩=some (.int .i64 999):=by simp[World.cell?,H3.out]
   cases b
   .by_cases hx:new=0
    .have HN:=Hx (HQ.out.trans (eI (λh=>h.2 hx) (by omega)))
     have e1:(new != 0)=false:=by simp[hx]
     have e2:¬ new<0:=by omega
     have e3:¬ 999<new:=by omega
     clear hx;go_wp2;go_roundw
     case rel=>exact⟨2,by omega,by go_num,HN.out,B5.out⟩
     case measure=>simp[intOf]
    .have HN:=Hx (HQ.out.trans (jE rfl hx))
     have e1:(new != 0)=true:=by simp[hx]
     clear hx;go_wp2;go_ret;exact cy.err HN.out (by omega) BW5.out
   .by_cases hx:new<0\/999<new
    .have HN:=Hx (HQ.out.trans (dU (λh=>by cases h.1) hx));by_cases e2:new<0
     .clear hx;go_wp2;go_ret;exact cy.err HN.out (by omega) BW5.out
     .have e3:999<new:=by omega
      clear hx;go_wp2;go_ret;exact cy.err HN.out (by omega) BW5.out
    .have HN:=Hx (HQ.out.trans (eI (λh=>by cases h.1) hx))
     have e2:¬ new<0:=by omega
     have e3:¬ 999<new:=by omega
     clear hx;go_wp2;go_roundw
     case rel=>exact⟨2,by omega,by go_num,HN.out,B5.out⟩
     case measure=>simp[intOf]
  .obtain⟨b,hb⟩:=Nm (hasB n 97);have HQ:=Hs (aB ⟨n,who,key,new,typ,at_,stays,data,want⟩=stage b at_ 7 (xl ⟨n,who,key,new,typ,at_,stays,data,want⟩ 3)) (HF.out.trans (by rw[<-hb,HH.out.2.2.1]; rfl));have Kt:=Hx hb;clear hb;go_wp2_with fail;refine(jt n hn 97 97 (by decide) b Kt.out _).mono ?_;rintro e w5 ⟨rfl,b5⟩;have B5:=Hs (Below (w.heap.size+2) ((w.alloc (.cells (kU ⟨n,who,key,new,typ,at_,stays,data,want⟩) 39)).alloc (.cells (Ak ⟨n,who,key,new,typ,at_,stays,data,want⟩) 158)) w5) (HB.out.trans (((ay wr _).trans (b5.mono (ay wr _).size)).mono (by omega)));have BW5:=Hx (Jj.out.trans (((ay wr _).trans (b5.mono (ay wr _).size)).mono Jj.out.size));have H3:=Hx ((b5.block wr.heap.size (by simp)).trans (heap_alloc_new wr _));clear b5 c0 c1 c2 c3 c4 c5 c6 c7 c8 t0 t1 t2 t3 t4 t5 t6 t7 t8
   have r1:w5.cell? ⟨wr.heap.size,1,none⟩=some (.int .i64 at_):=by simp[World.cell?,H3.out]
   have r2:w5.cell? ⟨wr.heap.size,2,none⟩=some (.int .i64 7):=by simp[World.cell?,H3.out]
   cases b
   .by_cases hx:at_=0
    .have HN:=Hx (HQ.out.trans (eI (λh=>h.2 hx) (by omega)))
     have e1:(at_ != 0)=false:=by simp[hx]
     have e2:¬ at_<0:=by omega
     have e3:¬ 7<at_:=by omega
     clear hx;go_wp2;go_roundw
     case rel=>exact⟨3,by omega,by go_num,HN.out,B5.out⟩
     case measure=>simp[intOf]
    .have HN:=Hx (HQ.out.trans (jE rfl hx))
     have e1:(at_ != 0)=true:=by simp[hx]
     clear hx;go_wp2;go_ret;exact cy.err HN.out (by omega) BW5.out
   .by_cases hx:at_<0\/7<at_
    .have HN:=Hx (HQ.out.trans (dU (λh=>by cases h.1) hx));by_cases e2:at_<0
     .clear hx;go_wp2;go_ret;exact cy.err HN.out (by omega) BW5.out
     .have e3:7<at_:=by omega
      clear hx;go_wp2;go_ret;exact cy.err HN.out (by omega) BW5.out
    .have HN:=Hx (HQ.out.trans (eI (λh=>by cases h.1) hx))
     have e2:¬ at_<0:=by omega
     have e3:¬ 7<at_:=by omega
     clear hx;go_wp2;go_roundw
     case rel=>exact⟨3,by omega,by go_num,HN.out,B5.out⟩
     case measure=>simp[intOf]
  .have hzz:wr.heap.size<=wr.heap.size:=Nat.le_refl _;have HX:=Hx (bad_eq n hn who key new typ at_ stays data want);have HF3:=Hs (aB ⟨n,who,key,new,typ,at_,stays,data,want⟩=Gk ⟨n,who,key,new,typ,at_,stays,data,want⟩) HF.out;clear t0 t1 t2 t3 t4 t5 t6 t7 t8;obtain⟨X,hX⟩:=Nm (bif hasB n 116 then !aU typ else(aU typ || decide (typ≠0)));have Ks:=Hx hX;clear hX;obtain⟨BP,hBP⟩:=Nm (fz ⟨n,who,key,new,typ,at_,stays,data,want⟩);have HBP:=Hx hBP;clear hBP
   go_upto_block 2 with fail
   go_step
   go_step
   go_cut [64] (λv wx=>v=.bool BP/\Below wr.heap.size wr wx)
   case first =>
    go_upto_region 13 with fail;go_cut [64] (λv wx=>v=.bool X/\Below wr.heap.size wr wx)
    case first =>
     have hq:=cH (Below.refl wr.heap.size wr);obtain⟨b,hb⟩:=Nm (hasB n 116);obtain⟨m,hm⟩:=Nm (aU typ);have HX2:=Hs ((bif b then !m else(m || decide (typ≠0)))=X) (by rw[<-hb,<-hm]; exact Ks.out);have JE:=Hx hb;have HMX:=Hx hm;clear hb hm
     cases b<;>cases m
     .by_cases ht:typ=0
      .have e1:(typ != 0)=false:=by simp[ht]
       have Kr:=Hs (false=X) (by rw[<-HX2.out]; simp[ht]);clear ht;refine wp_region_quiet_below (by kernel_rfl) (by kernel_rfl) ?_
       repeat(go_big_quiet_step (first|exact Calls.regrown_of (jt n hn 116 116 (by decide) _ JE.out _) | exact Calls.regrown_of (nZ typ _ HMX.out _)))
       refine wpQuiet_nil ?_;rintro w' ⟨⟨dq,osq⟩,rfl⟩;go_wp2_with fail;go_meet;exact⟨by rw[<-Kr.out],below_regrown _ dq osq⟩
      .have e1:(typ != 0)=true:=by simp[ht]
       have Kr:=Hs (true=X) (by rw[<-HX2.out]; simp[ht]);clear ht;refine wp_region_quiet_below (by kernel_rfl) (by kernel_rfl) ?_
       repeat(go_big_quiet_step (first|exact Calls.regrown_of (jt n hn 116 116 (by decide) _ JE.out _) | exact Calls.regrown_of (nZ typ _ HMX.out _)))
       refine wpQuiet_nil ?_;rintro w' ⟨⟨dq,osq⟩,rfl⟩;go_wp2_with fail;go_meet;exact⟨by rw[<-Kr.out],below_regrown _ dq osq⟩
     .have Kr:=Hs (true=X) (by rw[<-HX2.out]; simp);refine wp_region_quiet_below (by kernel_rfl) (by kernel_rfl) ?_
      repeat(go_big_quiet_step (first|exact Calls.regrown_of (jt n hn 116 116 (by decide) _ JE.out _) | exact Calls.regrown_of (nZ typ _ HMX.out _)))
      refine wpQuiet_nil ?_;rintro w' ⟨⟨dq,osq⟩,rfl⟩;go_wp2_with fail;go_meet;exact⟨by rw[<-Kr.out],below_regrown _ dq osq⟩
     .have Kr:=Hs (true=X) (by rw[<-HX2.out]; simp);refine wp_region_quiet_below (by kernel_rfl) (by kernel_rfl) ?_
      repeat(go_big_quiet_step (first|exact Calls.regrown_of (jt n hn 116 116 (by decide) _ JE.out _) | exact Calls.regrown_of (nZ typ _ HMX.out _)))
      refine wpQuiet_nil ?_;rintro w' ⟨⟨dq,osq⟩,rfl⟩;go_wp2_with fail;go_meet;exact⟨by rw[<-Kr.out],below_regrown _ dq osq⟩
     .have Kr:=Hs (false=X) (by rw[<-HX2.out]; simp);refine wp_region_quiet_below (by kernel_rfl) (by kernel_rfl) ?_
      repeat(go_big_quiet_step (first|exact Calls.regrown_of (jt n hn 116 116 (by decide) _ JE.out _) | exact Calls.regrown_of (nZ typ _ HMX.out _)))
      refine wpQuiet_nil ?_;rintro w' ⟨⟨dq,osq⟩,rfl⟩;go_wp2_with fail;go_meet;exact⟨by rw[<-Kr.out],below_regrown _ dq osq⟩
    case rest =>
     obtain⟨rfl,b6⟩:=hcut;have BW6:=Hx b6;have HC6:=Hx ((b6.block w.heap.size Ij).trans HC.out);have hz6:w.heap.size<wc.heap.size:=Nat.lt_of_lt_of_le Ij b6.size;have HX4:=Hs (fz ⟨n,who,key,new,typ,at_,stays,data,want⟩=(X || (!hasB n 115 && stays) || (!hasB n 100 && decide (data.size≠0)) || (!hasB n 119 && decide (want.size≠0)))) (by rw[HX.out,Ks.out]);clear b6 c0 c1 c2 c3 c4 c5 c6 c7 c8 HX Ks;obtain⟨c0,c1,c2,c3,c4,c5,c6,c7,c8⟩:=eR HC6.out;cases X
     .obtain⟨x2,hx2⟩:=Nm (!hasB n 115 && stays);rw[hx2]at HX4;have HYx2:=Hx hx2;clear hx2
      obtain⟨wox2,rfl⟩:∃wo:World,wo=wc:=⟨_,rfl⟩
      go_upto_region 14 with fail;go_cut [64] (λv wx=>v=.bool x2/\Below wox2.heap.size wox2 wx)
      case first =>
       obtain⟨b,hb⟩:=Nm (hasB n 115);rw[hb]at HYx2;have IR:=Hx hb;clear hb;go_wp2_with fail;refine(jt n hn 115 115 (by decide) b IR.out _).mono ?_;rintro e w7 ⟨rfl,b7⟩;obtain⟨d0,d1,d2,d3,d4,d5,d6,d7,d8⟩:=eR ((b7.block w.heap.size hz6).trans HC6.out);have B7:=Hx b7;clear b7;cases b
       .have KJ:=Hs (stays=x2) HYx2.out;go_wp2_with fail;go_meet;exact⟨by rw[KJ.out],B7.out⟩
       .have KJ:=Hs (false=x2) HYx2.out;go_wp2_with fail;go_meet;exact⟨by rw[KJ.out],B7.out⟩
      case rest =>
       obtain⟨rfl,b7⟩:=hcut;have BWx2:=Hx (BW6.out.trans (b7.mono BW6.out.size));have HCx2:=Hx ((b7.block w.heap.size hz6).trans HC6.out);have hzx2:w.heap.size<wc.heap.size:=Nat.lt_of_lt_of_le hz6 b7.size;clear b7 c0 c1 c2 c3 c4 c5 c6 c7 c8;obtain⟨c0,c1,c2,c3,c4,c5,c6,c7,c8⟩:=eR HCx2.out;cases x2
       .obtain⟨x3,hx3⟩:=Nm (!hasB n 100 && decide (data.size≠0));rw[hx3]at HX4;have HYx3:=Hx hx3;clear hx3
        obtain⟨wox3,rfl⟩:∃wo:World,wo=wc:=⟨_,rfl⟩
        go_upto_region 15 with fail;go_cut [64] (λv wx=>v=.bool x3/\Below wox3.heap.size wox3 wx)
        case first =>
         obtain⟨b,hb⟩:=Nm (hasB n 100);rw[hb]at HYx3;have IR:=Hx hb;clear hb;go_wp2_with fail;refine(jt n hn 100 100 (by decide) b IR.out _).mono ?_;rintro e w7 ⟨rfl,b7⟩;obtain⟨d0,d1,d2,d3,d4,d5,d6,d7,d8⟩:=eR ((b7.block w.heap.size hzx2).trans HCx2.out);have B7:=Hx b7;clear b7;cases b
         .have KJ:=Hs (decide (data.size≠0)=x3) HYx3.out;go_wp2_with fail;go_meet;exact⟨by rw[<-KJ.out,fS],B7.out⟩
         .have KJ:=Hs (false=x3) HYx3.out;go_wp2_with fail;go_meet;exact⟨by rw[KJ.out],B7.out⟩
        case rest =>
         obtain⟨rfl,b7⟩:=hcut;have BWx3:=Hx (BWx2.out.trans (b7.mono BWx2.out.size));have HCx3:=Hx ((b7.block w.heap.size hzx2).trans HCx2.out);have hzx3:w.heap.size<wc.heap.size:=Nat.lt_of_lt_of_le hzx2 b7.size;clear b7 c0 c1 c2 c3 c4 c5 c6 c7 c8;obtain⟨c0,c1,c2,c3,c4,c5,c6,c7,c8⟩:=eR HCx3.out;cases x3
         .obtain⟨b,hb⟩:=Nm (hasB n 119);rw[hb]at HX4;have IR:=Hx hb;clear hb;go_wp2_with fail;refine(jt n hn 119 119 (by decide) b IR.out _).mono ?_;rintro e w7 ⟨rfl,b7⟩;obtain⟨d0,d1,d2,d3,d4,d5,d6,d7,d8⟩:=eR ((b7.block w.heap.size hzx3).trans HCx3.out);have B7:=Hx (BWx3.out.trans (b7.mono BWx3.out.size));clear b7;cases b
          .have KJ:=Hs (decide (want.size≠0)=BP) (by rw[<-HBP.out,HX4.out]; simp);go_wp2_with fail;go_meet;exact⟨by rw[<-KJ.out,fS],B7.out⟩
          .have KJ:=Hs (false=BP) (by rw[<-HBP.out,HX4.out]; simp);go_wp2_with fail;go_meet;exact⟨by rw[KJ.out],B7.out⟩
         .have HE:=Hs (true=BP) (by rw[<-HBP.out,HX4.out]; simp);go_wp2_with fail;go_meet;exact⟨by rw[<-HE.out],BWx3.out⟩
       .have HE:=Hs (true=BP) (by rw[<-HBP.out,HX4.out]; simp);go_wp2_with fail;go_meet;exact⟨by rw[<-HE.out],BWx2.out⟩
     .have HE:=Hs (true=BP) (by rw[<-HBP.out,HX4.out]; simp);go_wp2_with fail;go_meet;exact⟨by rw[<-HE.out],BW6.out⟩
   case rest =>
    obtain⟨wo,rfl⟩:∃wo:World,wo=wc:=⟨_,rfl⟩
    obtain⟨rfl,b6⟩:=hcut;have BW6:=Hx (Jj.out.trans (b6.mono Jj.out.size));have HC6:=Hx ((b6.block w.heap.size Ij).trans HC.out);have hz6:w.heap.size<wo.heap.size:=Nat.lt_of_lt_of_le Ij b6.size;clear b6 c0 c1 c2 c3 c4 c5 c6 c7 c8 HX Ks;obtain⟨c0,c1,c2,c3,c4,c5,c6,c7,c8⟩:=eR HC6.out;cases BP
    .have I0:=Hx (HF3.out.trans (if_neg (by rw[HBP.out]; simp)));by_cases hd:8<data.size\/8<want.size
     .have HE:=Hx (I0.out.trans (if_pos hd));by_cases h1:(8:Int)<data.size
      .go_wp2;go_ret;exact cy.err HE.out (by omega) BW6.out
      .have h2:(8:Int)<want.size:=by omega
       go_wp2;go_ret;exact cy.err HE.out (by omega) BW6.out
     .have HE:=Hx (I0.out.trans (if_neg hd))
      have h1:¬ (8:Int)<data.size:=by omega
      have h2:¬ (8:Int)<want.size:=by omega
      clear I0;have HW1:=Hx (λ(wz:World) (hb:Below wo.heap.size wo wz)=>BW6.out.trans (hb.mono BW6.out.size));go_wp2;go_loopw [128] (λi wr=>∃k:Nat,k<=2/\i=.int .i64 k/\((0<k->ew data=true)/\(1<k->ew want=true))/\Below (wo.alloc (.cells #[.string data,.string want] 9)).heap.size (wo.alloc (.cells #[.string data,.string want] 9)) wr) (λi _=>(2 - intOf i).toNat)
      case atStart=>exact⟨0,by omega,rfl,⟨λh=>by omega,λh=>by omega⟩,Below.refl _ _⟩
      case round =>
       obtain⟨k,hk,rfl,hS,hb⟩:=hrel;have HS:=Hx hS;have HB7:=Hx hb;have HT7:=Hx ((hb.block wo.heap.size (by simp)).trans (heap_alloc_new wo _));have HW7:=Hx (HW1.out _ ((ay wo _).trans (hb.mono (ay wo _).size)));clear hS hb c0 c1 c2 c3 c4 c5 c6 c7 c8 h1 h2
       have s0:wr.cell? ⟨wo.heap.size,0,none⟩=some (.string data):=by simp[World.cell?,HT7.out]
       have s1:wr.cell? ⟨wo.heap.size,1,none⟩=some (.string want):=by simp[World.cell?,HT7.out]
       rcases (by omega:k=0\/k=1\/k=2) with rfl | rfl | rfl
       .obtain⟨b,hb⟩:=Nm (ew data);have IR:=Hx hb;clear hb;go_wp2_with fail;refine(iu data _).mono ?_;rintro e w8 ⟨rfl,b8⟩;rw[IR.out];have HW8:=Hx (HW7.out.trans (b8.mono HW7.out.size));have HB8:=Hx (HB7.out.trans (b8.mono HB7.out.size));clear b8;cases b
        .have HE2:=Hx (HE.out.trans (if_neg (by rw[IR.out]; simp)));go_wp2;go_ret;exact cy.err HE2.out (by omega) HW8.out
        .go_wp2;go_roundw
         case rel=>exact⟨1,by omega,by go_num,⟨λ_=>IR.out,λh=>by omega⟩,HB8.out⟩
         case measure=>simp[intOf]
       .obtain⟨b,hb⟩:=Nm (ew want);have IR:=Hx hb;clear hb;go_wp2_with fail;refine(iu want _).mono ?_;rintro e w8 ⟨rfl,b8⟩;rw[IR.out];have HW8:=Hx (HW7.out.trans (b8.mono HW7.out.size));have HB8:=Hx (HB7.out.trans (b8.mono HB7.out.size));clear b8;cases b
        .have HE2:=Hx (HE.out.trans (if_neg (by rw[IR.out]; simp)));go_wp2;go_ret;exact cy.err HE2.out (by omega) HW8.out
        .go_wp2;go_roundw
         case rel=>exact⟨2,by omega,by go_num,⟨λ_=>HS.out.1 (by omega),λ_=>IR.out⟩,HB8.out⟩
         case measure=>simp[intOf]
       .have HE2:=Hx (HE.out.trans (if_pos ⟨HS.out.1 (by omega),HS.out.2 (by omega)⟩));go_wp2;go_ret;exact cy.ok HE2.out HW7.out
    .have HE:=Hx (HF3.out.trans (if_pos HBP.out));go_wp2;go_ret;exact cy.err HE.out (by omega) BW6.out
end
section
open Go.RowKit
theorem kH{B:Nat}{w:World}{b o:Nat}{l:List Int}(h:Ints B w (some ⟨b,o,none⟩) l):∀j u,(l.map (Value.int .i64))[j]?=some u->w.cell? ((⟨b,o,none⟩:Addr).add j)=some u:=by
 intro j u hj
 have J8:j<l.length:=by have:=(List.getElem?_eq_some_iff.1 hj).1;simpa using this
 obtain⟨b',o',e,hb,c1⟩:=h j J8
 obtain⟨rfl,rfl⟩:b=b'/\o=o':=by simpa using e
 have Jm:(⟨b,o,none⟩:Addr).add j=⟨b,o+j,none⟩:=by unfold Addr.add; split<;>simp_all
 rw[Jm,c1,<-hj];simp[J8]
theorem jr(l:List Int):∀u∈l.map (Value.int .i64),u.oneCell'=true:=by intro u hu;simp only[List.mem_map]at hu;obtain⟨r,_,h⟩:=hu;subst h; rfl
theorem rk(l:List Int)(a:Option Addr)(cap:Nat)(w:World)(hl:l.length*8<=140737488355328)(hr:Ints w.heap.size w a l) : Calls Tryz.prog 85 #[.slice a l.length cap] w λe w'=>∃v,e=.returned v/\bh w.heap.size w' v l/\Below w.heap.size w w':=by
 have hq:=λw=>Lib.run_eql_slice_nil (P:=Tryz.prog) w 71 3 a l.length cap 0 0 Tryz.underlying71;obtain⟨i0,hi,Ij,Ii,Im⟩:=info_parts Tryz.infoInt
 cases a with
 | none =>
  have hz:l=[]:=by
   cases l with
   | nil=>rfl
   | cons r l=>obtain⟨b,o,e,_⟩:=hr 0 (by simp); cases e
  subst hz;simp only[List.length_nil,Option.isNone_none]at hq ⊢;clear hi Ij Ii Im hr hl;go_enter Tryz.func85,Tryz.ntmps85
  go_wp2;go_ret;exact⟨_,rfl,⟨rfl,.inl ⟨rfl,rfl⟩⟩,Below.refl _ _⟩
 | some ad =>
  have JL:l=[]\/∃b o,ad=⟨b,o,none⟩/\b<w.heap.size:=by
   cases l with
   | nil=>exact .inl rfl
   | cons r l=>obtain⟨b,o,e,hb,_⟩:=hr 0 (by simp); exact .inr ⟨b,o,by simpa using e,hb⟩
  have IA:∀j u,(l.map (Value.int .i64))[j]?=some u->(w.alloc (.cells #[] 3)).cell? (ad.add j)=some u:=by
   rcases JL with rfl | ⟨b,o,rfl,hb⟩
   .intro j u h; simp at h
   .exact kH (hr.below (ay w _) (Nat.le_refl _))
  have ec:(w.alloc (.cells #[] 3)).ownsRow w.heap.size 3 1 (.slice (some ⟨w.heap.size,0,none⟩) 0 0) 0 [] :=
   ⟨rfl,.inr ⟨w.heap.size,0,#[],rfl,Nat.le_refl _,heap_alloc_new _ _,Nat.le_refl _,by simp[maxLen],rfl,rfl⟩⟩
  go_enter Tryz.func85,Tryz.ntmps85
  go_wp2_with (at_builtin; refine wpList_append_own _ rfl _ _ 71 rfl w.heap.size 3 i0 (.int .i64 0) 1 8 Tryz.underlying71 hi Ij Ii Im rfl (by decide) _ _ _ rfl ec ad l.length cap (l.map (Value.int .i64)) rfl (by simp) IA (jr l) ?c3 ?c4 ?c5 ?_)
  case c3=>unfold maxLen; omega
  case c4=>omega
  case c5=>simp
  intro v' w1 jZ Il _;go_wp2;go_ret;refine⟨_,rfl,?_,?_⟩
  .simpa[bh] using jZ
  .exact(ay w _).grown Il (by simp) (λk hk=>by simp[Value.ownBlock]at hk; omega)
theorem bh.cap{B:Nat}{w:World}{a:Option Addr}{l:List Int}{n c:Nat}(h:bh B w (.slice a n c) l):l.length<=c:=by
 obtain⟨h1,h2⟩:=h
 rcases h2 with⟨e,hn⟩ | ⟨g,cap,cur,e,hg,hh,hc,hm,hs,ht⟩
 .omega
 .cases e; exact hc
structure Sl where
 a:Option Addr
 l:List Int
 c:Nat
abbrev Sl.v(s:Sl):Value:=.slice s.a s.l.length s.c
structure Sl.ok (s:Sl) (w:World):Prop where
 ints:Ints w.heap.size w s.a s.l
 len:s.l.length<=5
 cap:s.l.length<=s.c
theorem Sl.ok.below{s:Sl}{w w':World}(h:s.ok w)(hb:Below w.heap.size w w'):s.ok w' :=
 ⟨(h.ints.below hb (Nat.le_refl _)).mono hb.size,h.len,h.cap⟩
structure Bx where
 s1:Sl
 s2:Sl
 s3:Sl
 s4:Sl
abbrev Bx.cells(b:Bx):Array Value:=#[b.s1.v,b.s2.v,b.s3.v,b.s4.v]
def Bx.get(b:Bx)(k:Int):Sl:=if k=1 then b.s1 else if k=2 then b.s2 else if k=3 then b.s3 else b.s4
def Bx.set(b:Bx)(k:Int)(s:Sl):Bx:=if k=1 then { b with s1:=s } else if k=2 then { b with s2:=s } else if k=3 then { b with s3:=s } else { b with s4:=s }
structure Bx.ok (b:Bx) (w:World):Prop where
 o1:b.s1.ok w
 o2:b.s2.ok w
 o3:b.s3.ok w
 o4:b.s4.ok w
theorem Bx.ok.below{b:Bx}{w w':World}(h:b.ok w)(hb:Below w.heap.size w w'):b.ok w':=⟨h.o1.below hb,h.o2.below hb,h.o3.below hb,h.o4.below hb⟩
theorem Bx.ok.set{b:Bx}{w:World}(h:b.ok w)(k:Int){s:Sl}(hs:s.ok w):(b.set k s).ok w:=by
 unfold Bx.set
 split
 .exact⟨hs,h.o2,h.o3,h.o4⟩
 split
 .exact⟨h.o1,hs,h.o3,h.o4⟩
 split
 .exact⟨h.o1,h.o2,hs,h.o4⟩
 .exact⟨h.o1,h.o2,h.o3,hs⟩
def ia (l:List Int)(x:Int):List Int:=if l.getLast?=some x then l else(l ++ [x]).drop (l.length+1 - 5)
theorem Db(l:List Int)(x:Int)(h:l.length<=5):(ia l x).length<=5:=by
 unfold ia; split
 .exact h
 .simp; omega
theorem rq(l:List Int)(x:Int)(n:Nat)(hn:l.length=n+1)(h:l[n]=x):ia l x=l:=by unfold ia; rw[if_pos];rw[List.getLast?_eq_getElem?,hn,Nat.add_sub_cancel,List.getElem?_eq_getElem (by omega),h]
theorem pM(l:List Int)(x:Int)(n:Nat)(hn:l.length=n+1)(h:l[n]≠x):ia l x=(l ++ [x]).drop (l.length+1 - 5):=by unfold ia; rw[if_neg];rw[List.getLast?_eq_getElem?,hn,Nat.add_sub_cancel,List.getElem?_eq_getElem (by omega)];simpa using h
structure ei (M B:Nat) (w w':World):Prop where
 low:Below M w w'
 size:w.heap.size<=w'.heap.size
 block:∀k,k<B->k≠M->w'.heap[k]?=w.heap[k]?
theorem ei.refl(M B:Nat)(w:World):ei M B w w:=⟨Below.refl _ _,Nat.le_refl _,λ_ _ _=>rfl⟩
theorem ei.trans{M B:Nat}{a b c:World}(h:ei M B a b)(k:ei M B b c):ei M B a c :=
 ⟨h.low.trans k.low,Nat.le_trans h.size k.size,λx hx hm=>(k.block x hx hm).trans (h.block x hx hm)⟩
theorem ei.of{M B:Nat}{w w':World}(h:Below B w w')(hM:M<=B):ei M B w w' :=
 ⟨h.mono hM,h.size,λk hk _=>h.block k hk⟩
theorem ei.cell{M B:Nat}{w w':World}(h:ei M B w w'){b o:Nat}(hb:b<B)(hm:b≠M):w'.cell? ⟨b,o,none⟩=w.cell? ⟨b,o,none⟩:=World.cell?_of_block (w:=w) (a:=⟨b,o,none⟩) (h.block b hb hm)
def takeN(l:List Int):Int:=l.headD 0
theorem mZ(l:List Int)(a:Option Addr)(cap n:Nat)(w:World)(hn:n=l.length)(hl:l.length*8<=140737488355328)(hr:Ints w.heap.size w a l) : Calls Tryz.prog 85 #[.slice a n cap] w λe w'=>∃s:Sl,e=.returned s.v/\s.l=l/\Ints w'.heap.size w' s.a s.l/\bh w.heap.size w' s.v l/\s.l.length<=s.c/\Below w.heap.size w w':=by
 subst hn;refine(rk l a cap w hl hr).mono ?_;rintro e w' ⟨v,rfl,ec,hb⟩;obtain⟨a',c',rfl,hi⟩:=ec.shape;exact⟨⟨a',l,c'⟩,rfl,rfl,hi,ec,ec.cap,hb⟩
theorem yY{B:Nat}{w:World}{b o:Nat}{x:Int}{t:List Int}(h:Ints B w (some ⟨b,o,none⟩) (x :: t)):Ints B w (some ⟨b,o+1,none⟩) t:=by
 intro i hi;obtain⟨b',o',e,hb,c1⟩:=h (i+1) (by simp; omega)
 obtain⟨rfl,rfl⟩:b=b'/\o=o':=by simpa using e
 exact⟨b,o+1,rfl,hb,by rw[show o+1+i=o+(i+1) from by omega,c1]; rfl⟩
theorem zP(w:World)(o p:Obj):Below w.heap.size w ((w.alloc o).alloc p):=(ay w o).alloc (by simp) _
theorem jU{W w1:World}{n:Nat}(hb:Below n W w1){b:Nat}(hbn:b<n){v0 v1 v2 v3:Value}{T:TypeId}(h:W.heap[b]?=some (.cells #[v0,v1,v2,v3] T (0,0))) : (w1.cell? ⟨b,0,none⟩=some v0/\w1.cell? ⟨b,1,none⟩=some v1/\w1.cell? ⟨b,2,none⟩=some v2/\w1.cell? ⟨b,3,none⟩=some v3) /\ (w1.frozen? ⟨b,0,none⟩=false/\w1.frozen? ⟨b,1,none⟩=false/\w1.frozen? ⟨b,2,none⟩=false/\w1.frozen? ⟨b,3,none⟩=false):=by
 have h1:w1.heap[b]?=some (.cells #[v0,v1,v2,v3] T (0,0)):=(hb.block b hbn).trans h;simp[World.cell?,World.frozen?,h1]
theorem jS(l:List Int)(a:Option Addr)(cap n:Nat)(w:World)(hn:n=l.length)(hl:l.length*8<=140737488355328)(hr:Ints w.heap.size w a l) : Calls Tryz.prog 85 #[.slice a n cap] w λe w'=>∃a' c',e=.returned (.slice a' n c')/\bh w.heap.size w' (.slice a' n c') l/\Below w.heap.size w w':=by
 subst hn;refine(rk l a cap w hl hr).mono ?_;rintro e w' ⟨v,rfl,ec,hb⟩;obtain⟨a',c',rfl,hi⟩:=ec.shape;exact⟨a',c',rfl,ec,hb⟩
def uU(b:Bx)(who:Int)(w:World)(e:Ending)(w':World):Prop :=
 ∃s:Sl,e=.returned (.tuple #[.agg (b.set who s).cells,.int .i64 (takeN (b.get who).l)])/\s.ok w'/\s.l=(b.get who).l.tail/\Below w.heap.size w w'
def mG(b:Bx)(who:Int)(w:World)(e:Ending)(w':World):Prop :=
 ∃s:Sl,e=.returned (.tuple #[.agg (b.set who s).cells,.int .i64 (takeN (b.get who).l)])/\s.ok w'/\s.l=(b.get who).l.tail/\Below w.heap.size w w'/\fB w.heap.size w' s.a s.l
theorem uU.mk{b:Bx}{who:Int}{w:World}{e:Ending}{w':World}{s:Sl}(h1:e=.returned (.tuple #[.agg (b.set who s).cells,.int .i64 (takeN (b.get who).l)]))(h2:s.ok w')(h3:s.l=(b.get who).l.tail)(h4:Below w.heap.size w w'):uU b who w e w':=⟨s,h1,h2,h3,h4⟩
theorem Aj{b:Bx}{who:Int}{w W1 w1 w':World}{a':Option Addr}{l' t:List Int}{c':Nat}{e:Ending}(hl:l'=t)(ec:bh W1.heap.size w1 (.slice a' l'.length c') t)(IF:l'.length<=c')(hlen:t.length+1<=5)
  (hb:Below W1.heap.size W1 w1) (hW:Below w.heap.size w W1/\w.heap.size+2=W1.heap.size) (kp:ac (λk=>k=w.heap.size\/k=w.heap.size+1) w1 w')
  (he:e=.returned (.tuple #[.agg (b.set who ⟨a',l',c'⟩).cells,.int .i64 (takeN (b.get who).l)])) (ht:t=(b.get who).l.tail):mG b who w e w':=by
 subst hl
 have hk:∀k,(k=w.heap.size\/k=w.heap.size+1)->k<W1.heap.size:=λk hk=>by have:=hW.2; omega
 have hz:=hb.size;have h0:=hW.2;refine⟨⟨a',l',c'⟩,he,⟨(ec.keeps kp hk).ints,by show l'.length<=5; omega,IF⟩,ht,?_,((ec.keeps kp hk).hi).mono (by omega)⟩;exact(hW.1.trans (hb.mono (by omega))).trans (kp.below (by omega) (λk hk=>by omega))
theorem yj(b:Bx)(who:Int)(w:World)(hr:b.ok w)(hw:1<=who/\who<=4) : Calls Tryz.prog 42 #[.agg b.cells,.int .i64 who] w (mG b who w):=by
 obtain⟨s1,s2,s3,s4⟩:=b
 have h4:who=1\/who=2\/who=3\/who=4:=by omega
 rcases h4 with rfl | rfl | rfl | rfl
 have o:=hr.o1; obtain⟨a,l,c⟩:=s1;rotate_left 1;have o:=hr.o2; obtain⟨a,l,c⟩:=s2;rotate_left 1;have o:=hr.o3; obtain⟨a,l,c⟩:=s3;rotate_left 1;have o:=hr.o4; obtain⟨a,l,c⟩:=s4;rotate_left 1
 all_goals
  clear hr hw;have OL:=Hx o;dsimp only[Bx.cells,Sl.v]at *
  cases l with
  | nil =>
   dsimp only[List.length_nil];go_enter Tryz.func42,Tryz.ntmps42
   go_wp2;refine bodyPost_ret (v:=_) (by simp[results,Tryz.results42,go_sem]; rfl) rfl ?_;exact⟨⟨a,[],c⟩,rfl,OL.out.below (zP w _ _),rfl,zP w _ _,fB.nil _ _ _⟩
  | cons x t =>
   obtain⟨bb,oo,rfl,Ix,hc0⟩:=o.ints 0 (by simp);have hlen:t.length+1<=5:=o.len;have CAP:=Hs (t.length+1<=c) o.cap;have TL:=Hx (yY o.ints);clear o OL;dsimp only[List.length_cons];simp only[Nat.add_zero,List.getElem_cons_zero]at hc0;go_enter Tryz.func42,Tryz.ntmps42
   go_wp2_with fail;obtain rfl:t=[]:=List.length_eq_zero_iff.1 (by have:=CAP.out; omega);refine(mZ [] _ _ _ _ rfl (by simp) (Ints.nil _ _ _)).mono ?_;rotate_left 1;refine(mZ t _ _ _ _ rfl (by omega) ((TL.out.below (zP _ _ _) (Nat.le_refl _)).mono (by simp; omega))).mono ?_;rotate_left 1
   all_goals
    rintro e w1 ⟨⟨a',l',c'⟩,rfl,hsl,hi,ec,IF,hb⟩;dsimp only at hsl hi ec IF;obtain⟨⟨d0,d1,d2,d3⟩,f0,f1,f2,f3⟩:=jU hb (b:=w.heap.size) (by simp; omega) (heap_alloc2_old w _ _);obtain⟨⟨x0,x1,x2,x3⟩,y0,y1,y2,y3⟩:=jU hb (b:=w.heap.size+1) (by simp) (heap_alloc2_new w _ _);have b0:Below w.heap.size w w1:=(zP w _ _).trans (hb.mono (by simp; omega));have cx:=(b0.cell (p:=⟨bb,oo,none⟩) Ix).trans hc0;go_wp2;go_region
    all_goals
     go_wp2;refine bodyPost_ret (v:=_) (by simp[results,Tryz.results42,go_sem, *]; rfl) rfl ?_;refine Aj hsl ec IF hlen hb ⟨zP w _ _,by simp⟩ ?_ (by simp[Bx.set,Bx.get,takeN,hsl]) (by simp[Bx.get])
     repeat(first|with_reducible exact ac.refl _ _ | (with_reducible refine ac.drew ?_)|(with_reducible refine ac.setCell ?_ (.inl rfl) _)|(with_reducible refine ac.setCell ?_ (.inr rfl) _))
end
section
open Go.RowKit Go.Lib
structure Bl where
 b1:List Int
 b2:List Int
 b3:List Int
 b4:List Int
def Bl.zero:Bl:=⟨[],[],[],[]⟩
def Bl.pow:Bl:=⟨[4],[4],[4],[4]⟩
def Bl.get(b:Bl)(k:Int):List Int:=if k=1 then b.b1 else if k=2 then b.b2 else if k=3 then b.b3 else b.b4
def Bl.set(b:Bl)(k:Int)(l:List Int):Bl:=if k=1 then { b with b1:=l } else if k=2 then { b with b2:=l } else if k=3 then { b with b3:=l } else { b with b4:=l }
def Bl.add(b:Bl)(x:Int × Int):Bl:=b.set x.1 (ia (b.get x.1) x.2)
def Bl.adds(b:Bl)(l:List (Int × Int)):Bl:=l.foldl Bl.add b
structure Bl.ok (b:Bl):Prop where
 len:∀k,(b.get k).length<=5
 num:∀k,∀x∈b.get k,1<=x/\x<=4
structure Wt where
 tag:Int
 who:Int
 num:Int
 hv:List Int
structure Tg where
 k:Kp
 g:Gp
 b:Bl
 num:Int
 tag:Int
 wait:List Wt
 fly:List Ms
 done:List Int
def Tg.ready(t:Tg):Tg:={ t with g:=t.g.fence t.k.ep }
def Tg.isReady(t:Tg):Bool:=decide (2<=((t.g.fence t.k.ep).mem t.k.ep).length)
def Tg.keep(n:Nat)(t:Tg)(ep:Int)(s:St):Tg × Int:=({ t with k:=(t.k.keep n ep s).1 },(t.k.keep n ep s).2)
def Tg.fresh(t:Tg):Tg:={ t with num:=0,wait:=[] }
def Tg.next(n:Nat)(t:Tg)(s:St):Tg × Int :=
 if t.isReady=false then(t.ready,7)
 else if t.k.ep=1000000 then(t.ready,6)
 else if (t.ready.keep n (t.k.ep+1) t.k.s).2≠0 then t.ready.keep n (t.k.ep+1) t.k.s
 else
  let t2:=(t.ready.keep n (t.k.ep+1) t.k.s).1.fresh
  if t2.isReady=false then(t2.ready,7) else t2.ready.keep n t2.k.ep s
def Tg.order(n:Nat)(t:Tg)(c:bG):Tg × Int :=
 if (dy t.k.s c).2.2≠0 then(t,(dy t.k.s c).2.2)
 else
  let x:=if cG ce t.k.s (dy t.k.s c).1 then t.next n (dy t.k.s c).1 else t.keep n t.k.ep (dy t.k.s c).1
  if x.2≠0 then x else({ x.1 with b:=x.1.b.adds (dy t.k.s c).2.1 },0)
def Tg.read(t:Tg)(at':Nat):Tg × ByteArray × Int :=
 if t.isReady=false then(t.ready,⟨#[]⟩,7) else({ t.ready with g:=t.ready.g.read t.k.ep at' },(t.ready.g.readC t.k.ep at').d,0)
def Tg.msg(t:Tg)(c:bG)(i:Int):Ms:=⟨i,c.at',⟨t.k.ep,t.num+1,c.data⟩,t.tag+1⟩
def Tg.write(t:Tg)(c:bG):Tg × Int × Int :=
 if t.wait.length=6\/40<t.fly.length+3 then(t,0,6)
 else({ t with num:=t.num+1,tag:=t.tag+1,fly:=t.fly ++ [t.msg c 0,t.msg c 1,t.msg c 2],wait:=t.wait ++ [⟨t.tag+1,c.who,t.num+1,[]⟩] },t.tag+1,0)
def Tg.busy(t:Tg)(at':Int):Bool:=t.fly.any λm=>decide (m.at'=at') && decide (m.c.e=t.k.ep)
def Tg.refuse(t:Tg)(bad:Int)(at':Int):Int:=if bad≠0 then bad else if t.busy at' then 7 else 9
structure gB where
 data:ByteArray
 tag:Int
 what:Int
 err:Int
def gB.bad(f:Int):gB:=⟨⟨#[]⟩,0,0,f⟩
def Tg.doWrite(t:Tg)(c:bG):Tg × gB:=((t.write c).1,⟨⟨#[]⟩,(t.write c).2.1,0,(t.write c).2.2⟩)
def Tg.doComp(t:Tg)(c:bG):Tg × gB :=
 let r:=t.read c.at'.toNat
 if r.2.2≠0\/r.2.1≠c.want\/r.1.busy c.at'=true then(r.1,gB.bad (r.1.refuse r.2.2 c.at')) else r.1.doWrite c
def Tg.ask(n:Nat)(t:Tg)(c:bG):Tg × gB :=
 if aB c≠0 then(t,gB.bad (aB c))
 else if 0<takeN (t.b.get c.who) then({ t with b:=t.b.set c.who (t.b.get c.who).tail },⟨⟨#[]⟩,0,takeN (t.b.get c.who),0⟩)
 else if c.op<=6 then((t.order n c).1,gB.bad (t.order n c).2)
 else if ce t.k.s c.who (decide (c.op≠7))=false then(t,gB.bad 4)
 else if c.op=7 then((t.read c.at'.toNat).1,⟨(t.read c.at'.toNat).2.1,0,0,(t.read c.at'.toNat).2.2⟩)
 else if t.isReady=false then(t.ready,gB.bad 7)
 else if c.op=9 then t.ready.doComp c
 else t.ready.doWrite c
def Wt.put(w:Wt)(i:Int):Wt:={ w with hv:=if i∈w.hv then w.hv else w.hv ++ [i] }
def Tg.came(t:Tg)(m:Ms):Tg :=
 match t.wait.find? (λw=>decide (w.tag=m.tag)) with
 | none=>t
 | some w =>
  if 2<=(w.put m.tt).hv.length then { t with wait:=t.wait.filter (λw=>decide (w.tag≠m.tag)),done:=if m.tag∈t.done then t.done else t.done ++ [m.tag] }
  else { t with wait:=t.wait.map λw=>if w.tag=m.tag then w.put m.tt else w }
def Tg.deliver(t:Tg)(i:Int)(stays:Bool):Tg × Bool × Int :=
 if i<0\/(t.fly.length:Int)<=i then(t,false,8)
 else
  let m:=t.fly.getD i.toNat ⟨0,0,aw.zero,0⟩
  let t1:={ t with fly:=if stays then t.fly else t.fly.eraseIdx i.toNat,g:=t.g.deliver m.tt.toNat m.at'.toNat m.c }
  if t.g.delivers m.tt.toNat m.c then(t1.came m,true,0) else(t1,false,0)
def Tg.lose(t:Tg)(i:Int):Tg × Int :=
 if i<0\/(t.fly.length:Int)<=i then(t,8) else({ t with fly:=t.fly.eraseIdx i.toNat },0)
def Tg.up(t:Tg)(i:Int)(up:Bool):Tg × Int:=if i<0\/3<=i then(t,8) else({ t with g:=t.g.setU i.toNat up },0)
def Tg.sync(t:Tg)(i:Int):Tg × Int :=
 if i<0\/3<=i then(t,8) else if t.g.syncs t.k.ep i.toNat then({ t with g:=t.g.sync t.k.ep i.toNat },0) else(t,7)
def St.lost(s:St):St:=if s.stays then { s with gen:=0 } else St.zero
def Tg.power(n:Nat)(t:Tg):Tg × Int :=
 let x:=t.next n t.k.s.lost
 if x.2≠0 then x else({ x.1 with b:=Bl.pow },0)
def Tg.start(k:Kp)(g:Gp):Tg:=⟨k,g,Bl.zero,0,0,[],[],[]⟩
def Tg.new(n:Nat)(k:Kp)(g:Gp):Tg × Int:=(Tg.start k g).next n k.s
