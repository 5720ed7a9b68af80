import Derived.Test.YtjalgpcigojpkaaGreatDoorQ03
import Derived.Deep.RegionHeld3
set_option maxRecDepth 99999
set_option maxHeartbeats 99999999
namespace Go.Proofs.YtjalgpcigojpkaaGreatDoor
section
open Go.RowKit
theorem cN(s:St)(a:Option Addr)(cap:Nat)(who:Int)(w:World)(hr:bj w s a) : Calls Tryz.prog 90 #[dh s a cap,.int .i64 who] w λe w'=>e=.returned (.bool (holds s who))/\Below w.heap.size w w':=by
 have Jd:∀o,bj (w.alloc o) s a:=λo=>hr.below (ay w o);by_cases ht:s.typ=7\/s.typ=8
 .have ha:allT s.typ=true:=by simp[allT,ht]
  have hh:holds s who=decide (0<keyOf s.regs who):=by simp[holds,ht]
  rw[hh];clear ht hh;go_enter Tryz.func90,Tryz.ntmps90
  go_wp2_with fail;refine(cS s a cap _).mono ?_;rintro e w1 ⟨rfl,wC⟩;obtain⟨hc,hf⟩:=dr wC;have JZ:=(Jd _).below wC;go_wp2_with fail;refine(eN s a cap who _ JZ).mono ?_;rintro e w2 ⟨rfl,Ih⟩;go_wp2;go_ret;exact⟨rfl,(aT wC (by simp)).trans (Ih.mono (by have:=EG wC; omega))⟩
 .have ha:allT s.typ=false:=by simp[allT,ht]
  have hh:holds s who=decide (0<s.typ/\s.holder=who):=by simp[holds,ht]
  rw[hh];clear ht hh;by_cases hz:0<s.typ
  .by_cases hw:s.holder=who
   .subst hw;go_enter Tryz.func90,Tryz.ntmps90
    go_wp2_with fail;refine(cS s a cap _).mono ?_;rintro e w1 ⟨rfl,wC⟩;obtain⟨hc,hf⟩:=dr wC;go_wp2;go_ret;exact⟨aA (by simp[hz]),aT wC (by simp)⟩
   .have MJ:(s.holder == who)=false:=by simpa using hw
    go_enter Tryz.func90,Tryz.ntmps90
    go_wp2_with fail;refine(cS s a cap _).mono ?_;rintro e w1 ⟨rfl,wC⟩;obtain⟨hc,hf⟩:=dr wC;go_wp2;go_ret;exact⟨aA (by simp[hw]),aT wC (by simp)⟩
  .go_enter Tryz.func90,Tryz.ntmps90
   go_wp2_with fail;refine(cS s a cap _).mono ?_;rintro e w1 ⟨rfl,wC⟩;obtain⟨hc,hf⟩:=dr wC;go_wp2;go_ret;exact⟨aA (by simp; omega),aT wC (by simp)⟩
theorem mo(s:St)(a:Option Addr)(cap:Nat)(w:World) : Calls Tryz.prog 91 #[dh s a cap] w λe w'=>e=.returned (.bool (pd s.typ))/\Below w.heap.size w w':=by
 obtain⟨g,l,t,h,st⟩:=s;go_enter Tryz.func91,Tryz.ntmps91
 go_wp2;go_ret;exact⟨rfl,ay w _⟩
theorem nQ(s:St)(a:Option Addr)(cap:Nat)(w:World) : Calls Tryz.prog 93 #[dh s a cap] w λe w'=>e=.returned (.bool (kW s.typ))/\Below w.heap.size w w':=by
 obtain⟨g,l,t,h,st⟩:=s;dsimp only;by_cases h1:t=1
 .subst h1;go_enter Tryz.func93,Tryz.ntmps93
  go_wp2;go_ret;exact⟨rfl,ay w _⟩
 by_cases h5:t=5
 .subst h5;go_enter Tryz.func93,Tryz.ntmps93
  go_wp2;go_ret;exact⟨rfl,ay w _⟩
 by_cases h7:t=7
 .subst h7;go_enter Tryz.func93,Tryz.ntmps93
  go_wp2;go_ret;exact⟨rfl,ay w _⟩
 go_enter Tryz.func93,Tryz.ntmps93
 go_wp2;go_ret;exact⟨aA (by simp[kW,h1,h5,h7]),ay w _⟩
theorem lF(s:St)(a:Option Addr)(cap:Nat)(who:Int)(wr:Bool)(w:World)(hr:bj w s a) : Calls Tryz.prog 44 #[dh s a cap,.int .i64 who,.bool wr] w λe w'=>e=.returned (.bool (ce s who wr))/\Below w.heap.size w w':=by
 have Jd:∀o,bj (w.alloc o) s a:=λo=>hr.below (ay w o);by_cases h0:s.typ=0
 .have hp:ce s who wr=true:=by simp[ce,h0]
  rw[hp];clear hp;go_enter Tryz.func44,Tryz.ntmps44
  go_wp2;go_ret;exact⟨rfl,ay w _⟩
 have h0':(s.typ == 0)=false:=by simpa using h0
 have hp0:ce s who wr=if holds s who=true then true else if 5<=s.typ/\0<keyOf s.regs who then true else !wr && kW s.typ:=by simp[ce,h0]
 rw[hp0];clear hp0 h0;by_cases hh:holds s who=true
 .rw[if_pos hh];go_enter Tryz.func44,Tryz.ntmps44
  go_wp2_with fail;refine(cN s a cap who _ (Jd _)).mono ?_;rintro e w1 ⟨rfl,wC⟩;obtain⟨hc,hf⟩:=dr wC;go_wp2;go_ret;exact⟨rfl,aT wC (by simp)⟩
 have hh':holds s who=false:=by simpa using hh
 rw[if_neg hh];clear hh;by_cases h5:5<=s.typ
 .have hk:pd s.typ=true:=by simp[pd,h5]
  by_cases hq:0<keyOf s.regs who
  .rw[if_pos ⟨h5,hq⟩]
   have MQ:decide (0<keyOf s.regs who)=true:=by simpa using hq
   go_enter Tryz.func44,Tryz.ntmps44
   go_wp2_with fail;refine(cN s a cap who _ (Jd _)).mono ?_;rintro e w1 ⟨rfl,wC⟩;obtain⟨hc,hf⟩:=dr wC;have JZ:=(Jd _).below wC;go_wp2_with fail;refine(mo s a cap _).mono ?_;rintro e w2 ⟨rfl,Ih⟩;have Io:=wC.trans (Ih.mono (wC.size));obtain⟨hc',hf'⟩:=dr Io;have MP:=(Jd _).below Io;clear hc hf;go_wp2_with fail;refine(eN s a cap who _ MP).mono ?_;rintro e w3 ⟨rfl,IK⟩;go_wp2;go_ret;exact⟨rfl,(aT Io (by simp)).trans (IK.mono (by have:=EG Io; omega))⟩
  .rw[if_neg (λh=>hq h.2)]
   have MQ:decide (0<keyOf s.regs who)=false:=by simpa using hq
   go_enter Tryz.func44,Tryz.ntmps44
   go_wp2_with fail;refine(cN s a cap who _ (Jd _)).mono ?_;rintro e w1 ⟨rfl,wC⟩;obtain⟨hc,hf⟩:=dr wC;have JZ:=(Jd _).below wC;go_wp2_with fail;refine(mo s a cap _).mono ?_;rintro e w2 ⟨rfl,Ih⟩;have Io:=wC.trans (Ih.mono (wC.size));obtain⟨hc',hf'⟩:=dr Io;have MP:=(Jd _).below Io;clear hc hf;go_wp2_with fail;refine(eN s a cap who _ MP).mono ?_;rintro e w3 ⟨rfl,IK⟩;have IZ:=Io.trans (IK.mono (Io.size));obtain⟨hc,hf⟩:=dr IZ;clear hc' hf';cases wr
   .go_wp2_with fail;refine(nQ s a cap _).mono ?_;rintro e w4 ⟨rfl,JQ⟩;go_wp2;go_ret;exact⟨rfl,(aT IZ (by simp)).trans (JQ.mono (by have:=EG IZ; omega))⟩
   .go_wp2;go_ret;exact⟨rfl,aT IZ (by simp)⟩
 .rw[if_neg (λh=>h5 h.1)]
  have hk:pd s.typ=false:=by simp[pd]; omega
  go_enter Tryz.func44,Tryz.ntmps44
  go_wp2_with fail;refine(cN s a cap who _ (Jd _)).mono ?_;rintro e w1 ⟨rfl,wC⟩;obtain⟨hc,hf⟩:=dr wC;have JZ:=(Jd _).below wC;go_wp2_with fail;refine(mo s a cap _).mono ?_;rintro e w2 ⟨rfl,Ih⟩;have Io:=wC.trans (Ih.mono (wC.size));obtain⟨hc',hf'⟩:=dr Io;clear hc hf;cases wr
  .go_wp2_with fail;refine(nQ s a cap _).mono ?_;rintro e w4 ⟨rfl,JQ⟩;go_wp2;go_ret;exact⟨rfl,(aT Io (by simp)).trans (JQ.mono (by have:=EG Io; omega))⟩
  .go_wp2;go_ret;exact⟨rfl,aT Io (by simp)⟩
def mm(l:List (Int × Int)):Nat->Int
 | 0=>0
 | k+1=>(l[k]?.getD (0,0)).1
theorem gP(l:List (Int × Int))(k:Nat)(h:k<l.length):mm l (k+1)=l[k].1:=by simp[mm,h]
theorem AH(l:List (Int × Int))(k:Nat)(h:k<l.length)(p:Int)(hb:l[k].1<1\/4<l[k].1\/l[k].2<1\/999<l[k].2):aX p (l.drop k)=1:=by rw[List.drop_eq_getElem_cons h]; unfold aX; rw[if_pos hb]
theorem AG(l:List (Int × Int))(k:Nat)(h:k<l.length)(p:Int)(hb:¬ (l[k].1<1\/4<l[k].1\/l[k].2<1\/999<l[k].2))(hp:l[k].1<=p):aX p (l.drop k)=2:=by rw[List.drop_eq_getElem_cons h]; unfold aX; rw[if_neg hb,if_pos hp]
theorem EQ(l:List (Int × Int))(k:Nat)(h:k<l.length)(p:Int)(hb:¬ (l[k].1<1\/4<l[k].1\/l[k].2<1\/999<l[k].2))(hp:¬ l[k].1<=p):aX p (l.drop k)=aX l[k].1 (l.drop (k+1)):=by rw[List.drop_eq_getElem_cons h,aX,if_neg hb,if_neg hp]
theorem Fg{s:St}(h:s.gen<0\/1000000000<s.gen):ar s=1:=by unfold ar; rw[if_pos h]
theorem DI{s:St}(h:¬ (s.gen<0\/1000000000<s.gen))(h2:aX 0 s.regs≠0):ar s=aX 0 s.regs:=by unfold ar; rw[if_neg h,if_pos h2]
def iE(s:St):Int:=if s.typ=0 then(if s.holder≠0 then 2 else 0)
 else if aU s.typ=false then 2
 else if 7<=s.typ then(if s.holder≠0\/s.regs.length=0 then 2 else 0)
 else if keyOf s.regs s.holder=0 then 2 else 0
theorem DG{s:St}(h:¬ (s.gen<0\/1000000000<s.gen))(h2:aX 0 s.regs=0):ar s=iE s:=by unfold ar; rw[if_neg h,if_neg (by simp[h2])]; rfl
theorem tm(n:Int)(w:World) : Calls Tryz.prog 98 #[.int .i64 n] w λe w'=>e=.returned (.bool (aU n))/\w=w':=by
 by_cases h1:n=1
 .subst h1;go_enter Tryz.func98,Tryz.ntmps98
  go_wp2;go_ret;exact⟨rfl,rfl⟩
 by_cases h3:n=3
 .subst h3;go_enter Tryz.func98,Tryz.ntmps98
  go_wp2;go_ret;exact⟨rfl,rfl⟩
 have h1b:(n == 1)=false:=by simp[h1]
 have h3b:(n == 3)=false:=by simp[h3]
 by_cases h5:5<=n
 .by_cases h8:n<=8
  .go_enter Tryz.func98,Tryz.ntmps98
   go_wp2;go_ret;exact⟨aA (decide_eq_true (by omega)).symm,rfl⟩
  .go_enter Tryz.func98,Tryz.ntmps98
   go_wp2;go_ret;exact⟨aA (decide_eq_false (by omega)).symm,rfl⟩
 .go_enter Tryz.func98,Tryz.ntmps98
  go_wp2;go_ret;exact⟨aA (decide_eq_false (by omega)).symm,rfl⟩
theorem ji(s:St)(a:Option Addr)(cap:Nat)(who:Int)(w:World)(hr:bj w s a) : Calls Tryz.prog 100 #[dh s a cap,.int .i64 who] w λe w'=>e=.returned (.int .i64 (keyOf s.regs who))/\Below w.heap.size w w':=by
 obtain⟨g,l,t,h,st⟩:=s;obtain⟨hl,hr⟩:=hr;unfold maxLen at hl;dsimp only at hl hr;go_enter Tryz.func100,Tryz.ntmps100
 go_wp2;go_loop [5] (λi=>∃k:Nat,k<=l.length/\i=.int .i64 k/\keyOf (l.drop k) who=keyOf l who) (λi=>l.length - (intOf i).toNat)
 case atStart=>exact⟨0,by omega,rfl,rfl⟩
 case round =>
  obtain⟨k,hk,rfl,hK⟩:=hrel;have HK:=Hx hK; clear hK;by_cases lB:k<l.length
  .obtain⟨b,o,rfl,Ix,h1,h2⟩:=hr k lB;clear hr;go_wp2
   .have hw:(l[k].1 == who)=true:=by assumption
    go_ret;exact⟨e9 (qR l k lB who hw HK.out),ay w _⟩
   .have hw:(l[k].1 == who)=false:=by assumption
    go_round
    case rel=>exact⟨k+1,by omega,by go_num,pf l k lB who hw HK.out⟩
    case measure=>simp[intOf]; omega
  .go_wp2;go_ret;exact⟨e9 (qS l k (by omega) who HK.out),ay w _⟩
def bg (f:Int):Value:=if f=0 then .nilIface else .iface 108 (.int .i64 f)
theorem aH:bg 0=.nilIface:=rfl
theorem aK{f:Int}(h:f≠0):bg f=.iface 108 (.int .i64 f):=by unfold bg; rw[if_neg h]
theorem fO{f g:Int}(h:g=f)(hf:f≠0):Ending.returned (.iface 108 (.int .i64 f))=Ending.returned (bg g):=by rw[h,aK hf]
theorem xk{g:Int}(h:g=0):Ending.returned .nilIface=Ending.returned (bg g):=by rw[h,aH]
theorem check_any(s:St)(a:Option Addr)(cap:Nat)(w:World)(hr:bj w s a) : Calls Tryz.prog 134 #[dh s a cap] w λe w'=>e=.returned (bg (ar s))/\Below w.heap.size w w':=by
 obtain⟨g,l,t,h,st⟩:=s;have hr0:=hr;obtain⟨hl,hr⟩:=hr;unfold maxLen at hl;dsimp only at hl hr;by_cases hg:g<0\/1000000000<g
 .rw[Fg hg]
  rcases hg with hg | hg
  .go_enter Tryz.func134,Tryz.ntmps134
   go_wp2;go_ret;exact⟨fO rfl (by omega),ay w _⟩
  .have Nj:¬ g<0:=by omega
   go_enter Tryz.func134,Tryz.ntmps134
   go_wp2;go_ret;exact⟨fO rfl (by omega),ay w _⟩
 have Il:0<=g:=by omega
 have Ja:g<=1000000000:=by omega
 have FR:aX 0 l≠0->ar ⟨g,l,t,h,st⟩=aX 0 l:=λhx=>DI hg hx;have FZ:aX 0 l=0->ar ⟨g,l,t,h,st⟩=iE ⟨g,l,t,h,st⟩:=λhx=>DG hg hx;have HFR:=Hx FR;have HFZ:=Hx FZ;clear FR FZ hg;go_enter Tryz.func134,Tryz.ntmps134
 go_wp2;go_loopw [17] (λi wr=>∃k:Nat,k<=l.length/\i=.int .i64 k/\aX (mm l k) (l.drop k)=aX 0 l/\Below (w.heap.size+1) (w.alloc (.cells #[.int .i64 g,.slice a l.length cap,.int .i64 t,.int .i64 h,.bool st] 34)) wr) (λi _=>l.length - (intOf i).toNat)
 case atStart=>exact⟨0,by omega,rfl,rfl,Below.refl _ _⟩
 case round =>
  obtain⟨k,hk,rfl,hK,hb⟩:=hrel;have HK:=Hx hK; clear hK;have hs:=EG hb;have cw:∀o,wr.cell? ⟨w.heap.size,o,none⟩=(w.alloc (.cells #[.int .i64 g,.slice a l.length cap,.int .i64 t,.int .i64 h,.bool st] 34)).cell? ⟨w.heap.size,o,none⟩:=λo=>hb.cell (p:=⟨w.heap.size,o,none⟩) (by simp)
  have Ls:w.heap.size<wr.heap.size:=by omega
  by_cases lB:k<l.length
  .obtain⟨b,o,rfl,Ix,h1,h2⟩:=hr k lB
   have Nh:b<wr.heap.size:=by omega
   have c1:=((aT hb (by omega)).cell (p:=⟨b,o+k*2,none⟩) Ix).trans h1;have c2:=((aT hb (by omega)).cell (p:=⟨b,o+k*2+1,none⟩) Ix).trans h2;have fin:ar ⟨g,l,t,h,st⟩≠0->True:=λ_=>trivial;by_cases b1:l[k].1<1\/4<l[k].1\/l[k].2<1\/999<l[k].2
   .have e1:(1:Int)=ar ⟨g,l,t,h,st⟩:=by
     have:=AH l k lB (mm l k) b1;rw[HK.out]at this;rw[HFR.out (by omega),this]
    have E1:=Hx e1; clear e1;clear hr;by_cases d1:l[k].1<1
    .go_wp2;go_ret;exact⟨fO E1.out.symm (by omega),(aT hb (by omega)).trans ((ay wr _).mono (by omega))⟩
    by_cases d2:4<l[k].1
    .go_wp2;go_ret;exact⟨fO E1.out.symm (by omega),(aT hb (by omega)).trans ((ay wr _).mono (by omega))⟩
    by_cases d3:l[k].2<1
    .go_wp2;go_ret;exact⟨fO E1.out.symm (by omega),(aT hb (by omega)).trans ((ay wr _).mono (by omega))⟩
    have d4:999<l[k].2:=by omega
    go_wp2;go_ret;exact⟨fO E1.out.symm (by omega),(aT hb (by omega)).trans ((ay wr _).mono (by omega))⟩
   .have d1:¬ l[k].1<1:=by omega
    have d2:¬ 4<l[k].1:=by omega
    have d3:¬ l[k].2<1:=by omega
    have d4:¬ 999<l[k].2:=by omega
    have B1:=Hx b1; clear b1
    cases k with
    | zero =>
     have d0:decide ((0:Int)<((0:Nat):Int))=false:=by simp
     clear hr;simp only[Nat.zero_mul,Nat.add_zero]at c1 c2;go_wp2;go_quiet (fail)
     go_wp2;go_roundw
     case rel=>exact⟨1,by omega,rfl,by rw[<-HK.out,EQ l 0 lB _ B1.out (by simp only[mm]; omega),gP l 0 lB],below_drewN (hb.alloc (by omega) _) _⟩
     case measure=>simp[intOf]; omega
    | succ j =>
     have hj:j<l.length:=by omega
     obtain⟨b',o',Nl,hbs',Ns,h2'⟩:=hr j hj
     obtain⟨rfl,rfl⟩:b=b'/\o=o':=by simpa using Nl
     have c3:=((aT hb (by omega)).cell (p:=⟨b,o+j*2,none⟩) hbs').trans Ns;clear hr
     have x1:IntKind.i64.wrap ((j:Int)+1 - 1)=(j:Int):=by rw[IntWalk.i64_in _ (by omega)]; omega
     have x2:(j:Int)+1 - 1=(j:Int):=by omega
     by_cases b2:l[j+1].1<=l[j].1
     .have e2:(2:Int)=ar ⟨g,l,t,h,st⟩:=by
       have:=AG l (j+1) lB (mm l (j+1)) B1.out (by rw[gP l j hj]; exact b2);rw[HK.out]at this;rw[HFR.out (by omega),this]
      have E2:=Hx e2; clear e2;go_wp2;go_quiet (fail)
      go_wp2;go_ret;exact⟨fO E2.out.symm (by omega),below_drewN ((aT hb (by omega)).trans ((ay wr _).mono (by omega))) _⟩
     .go_wp2;go_quiet (fail)
      go_wp2;go_roundw
      case rel=>exact⟨j+2,by omega,by go_num,by rw[<-HK.out,EQ l (j+1) lB _ B1.out (by rw[gP l j hj]; omega),gP l (j+1) lB],below_drewN (hb.alloc (by omega) _) _⟩
      case measure=>simp[intOf]; omega
  .have hz:aX 0 l=0:=by rw[<-HK.out,List.drop_of_length_le (by omega)]; rfl
   have e0:=HFZ.out hz;have E0:=Hx e0;clear e0 hz HFR HFZ HK;have hrw:bj wr ⟨g,l,t,h,st⟩ a:=hr0.below (aT hb (by omega));clear hr hr0
   have fin:∀(w2:World) (f:Int),Below wr.heap.size wr w2->ar ⟨g,l,t,h,st⟩=f->f≠0->Ending.returned (.iface 108 (.int .i64 f))=Ending.returned (bg (ar ⟨g,l,t,h,st⟩))/\Below w.heap.size w w2 :=
    λw2 f Ih e hf=>⟨fO e hf,(aT hb (by omega)).trans (Ih.mono (by omega))⟩
   have fin0:∀(w2:World),Below wr.heap.size wr w2->ar ⟨g,l,t,h,st⟩=0->Ending.returned .nilIface=Ending.returned (bg (ar ⟨g,l,t,h,st⟩))/\Below w.heap.size w w2 :=
    λw2 Ih e=>⟨xk e,(aT hb (by omega)).trans (Ih.mono (by omega))⟩
   have FIN:=Hx fin;have FIN0:=Hx fin0;clear fin fin0;by_cases t0:t=0
   .subst t0;by_cases h0:h=0
    .subst h0;go_wp2;go_ret;exact FIN0.out _ (Below.refl _ _) (by rw[E0.out]; rfl)
    .have hh:(h != 0)=true:=by simp[h0]
     go_wp2;go_ret;exact FIN.out _ _ (Below.refl _ _) (by rw[E0.out]; simp[iE,h0]) (by omega)
   have t0':(t == 0)=false:=by simp[t0]
   have cb:∀(w1:World),Below wr.heap.size wr w1->∀o,w1.cell? ⟨w.heap.size,o,none⟩=(w.alloc (.cells #[.int .i64 g,.slice a l.length cap,.int .i64 t,.int .i64 h,.bool st] 34)).cell? ⟨w.heap.size,o,none⟩ :=
    λw1 wC o=>(wC.cell (p:=⟨w.heap.size,o,none⟩) (by show w.heap.size<_; omega)).trans (cw o)
   have CB:=Hx cb;clear cb cw;cases htm:aU t
   .have er:ar ⟨g,l,t,h,st⟩=2:=by rw[E0.out]; simp[iE,t0,htm]
    have ER:=Hx er;clear er;have cw1:=CB.out _ (Below.refl _ wr);go_wp2_with fail;refine(fY t _).mono ?_;rintro e w1 ⟨rfl,wC⟩;have cw2:=CB.out _ wC;go_wp2;go_ret;exact FIN.out _ _ wC ER.out (by omega)
   .by_cases t7:7<=t
    .have ha:allT t=true:=by simp[aU]at htm; simp[allT]; omega
     by_cases h0:h=0
     .subst h0
      have hlen':l.length=0\/l.length≠0:=by omega
      rcases hlen' with hlen | hlen
      .have er:ar ⟨g,l,t,0,st⟩=2:=by rw[E0.out]; simp[iE,t0,htm,t7,hlen]
       have ER:=Hx er
       have hle:((l.length:Int) == 0)=true:=by simp[hlen]
       clear er hlen;have cw1:=CB.out _ (Below.refl _ wr);go_wp2_with fail;refine(fY t _).mono ?_;rintro e w1 ⟨rfl,wC⟩;have cw2:=CB.out _ wC;go_wp2_with fail;refine(cS ⟨g,l,t,0,st⟩ a cap _).mono ?_;rintro e w2 ⟨rfl,Ih⟩;have Io:=wC.trans (Ih.mono wC.size);have cw3:=CB.out _ Io;go_wp2;go_ret;exact FIN.out _ _ Io ER.out (by omega)
      .have er:ar ⟨g,l,t,0,st⟩=0:=by
        have:l≠[]:=λe=>hlen (by rw[e]; rfl);rw[E0.out]; simp[iE,t0,htm,t7,this]
       have ER:=Hx er
       have hle:((l.length:Int) == 0)=false:=by simp; exact λe=>hlen (by rw[e]; rfl)
       clear er hlen;have cw1:=CB.out _ (Below.refl _ wr);go_wp2_with fail;refine(fY t _).mono ?_;rintro e w1 ⟨rfl,wC⟩;have cw2:=CB.out _ wC;go_wp2_with fail;refine(cS ⟨g,l,t,0,st⟩ a cap _).mono ?_;rintro e w2 ⟨rfl,Ih⟩;have Io:=wC.trans (Ih.mono wC.size);have cw3:=CB.out _ Io;go_wp2_with fail;refine(cS ⟨g,l,t,0,st⟩ a cap _).mono ?_;rintro e w3 ⟨rfl,IK⟩;have IZ:=Io.trans (IK.mono Io.size);have cw4:=CB.out _ IZ;go_wp2;go_ret;exact FIN0.out _ IZ ER.out
     .have hh:(h != 0)=true:=by simp[h0]
      have er:ar ⟨g,l,t,h,st⟩=2:=by rw[E0.out]; simp[iE,t0,htm,t7,h0]
      have ER:=Hx er;clear er;have cw1:=CB.out _ (Below.refl _ wr);go_wp2_with fail;refine(fY t _).mono ?_;rintro e w1 ⟨rfl,wC⟩;have cw2:=CB.out _ wC;go_wp2_with fail;refine(cS ⟨g,l,t,h,st⟩ a cap _).mono ?_;rintro e w2 ⟨rfl,Ih⟩;have Io:=wC.trans (Ih.mono wC.size);have cw3:=CB.out _ Io;go_wp2;go_ret;exact FIN.out _ _ Io ER.out (by omega)
    .have ha:allT t=false:=by simp[allT]; omega
     have hk':keyOf l h=0\/keyOf l h≠0:=by omega
     rcases hk' with LH | LH
     .have er:ar ⟨g,l,t,h,st⟩=2:=by rw[E0.out]; simp[iE,t0,htm,t7,LH]
      have ER:=Hx er
      have Ly:(keyOf l h == 0)=true:=by simp[LH]
      clear er LH;have cw1:=CB.out _ (Below.refl _ wr);go_wp2_with fail;refine(fY t _).mono ?_;rintro e w1 ⟨rfl,wC⟩;have cw2:=CB.out _ wC;go_wp2_with fail;refine(cS ⟨g,l,t,h,st⟩ a cap _).mono ?_;rintro e w2 ⟨rfl,Ih⟩;have Io:=wC.trans (Ih.mono wC.size);have cw3:=CB.out _ Io;go_wp2_with fail;refine(cS ⟨g,l,t,h,st⟩ a cap _).mono ?_;rintro e w3 ⟨rfl,IK⟩;have IZ:=Io.trans (IK.mono Io.size);have cw4:=CB.out _ IZ;have MP:=hrw.below IZ;go_wp2_with fail;refine(eN ⟨g,l,t,h,st⟩ a cap h _ MP).mono ?_;rintro e w4 ⟨rfl,JQ⟩;go_wp2;go_ret;exact FIN.out _ _ (IZ.trans (JQ.mono IZ.size)) ER.out (by omega)
     .have er:ar ⟨g,l,t,h,st⟩=0:=by rw[E0.out]; simp[iE,t0,htm,t7,LH]
      have ER:=Hx er
      have Ly:(keyOf l h == 0)=false:=by simp[LH]
      clear er LH;have cw1:=CB.out _ (Below.refl _ wr);go_wp2_with fail;refine(fY t _).mono ?_;rintro e w1 ⟨rfl,wC⟩;have cw2:=CB.out _ wC;go_wp2_with fail;refine(cS ⟨g,l,t,h,st⟩ a cap _).mono ?_;rintro e w2 ⟨rfl,Ih⟩;have Io:=wC.trans (Ih.mono wC.size);have cw3:=CB.out _ Io;go_wp2_with fail;refine(cS ⟨g,l,t,h,st⟩ a cap _).mono ?_;rintro e w3 ⟨rfl,IK⟩;have IZ:=Io.trans (IK.mono Io.size);have cw4:=CB.out _ IZ;have MP:=hrw.below IZ;go_wp2_with fail;refine(eN ⟨g,l,t,h,st⟩ a cap h _ MP).mono ?_;rintro e w4 ⟨rfl,JQ⟩;go_wp2;go_ret;exact FIN0.out _ (IZ.trans (JQ.mono IZ.size)) ER.out
end
section
open Go.RowKit Go.Sort
theorem lz(g:Int)(l:List (Int × Int))(t h:Int)(st:Bool)(a:Option Addr)(cap:Nat)(who:Int)(w:World)(hr:bj w ⟨g,l,t,h,st⟩ a)(hl:l.length<=100)(O:List Int)(hO:am who l=O) : Calls Tryz.prog 131 #[.agg #[.int .i64 g,.slice a l.length cap,.int .i64 t,.int .i64 h,.bool st],.int .i64 who] w λe w'=>∃a' c',e=.returned (.slice a' O.length c')/\Ints w'.heap.size w' a' O/\Below w.heap.size w w':=by
 subst hO;refine(vM ⟨g,l,t,h,st⟩ a cap who w hr hl).mono ?_;rintro e w' ⟨v,rfl,ec,hb⟩;obtain⟨a',c',rfl,hi⟩:=ec.shape;exact⟨a',c',rfl,hi,hb⟩
end
section
open Go.RowKit
theorem at_end(w:World)(o:Obj){n:Nat}(h:n=w.heap.size):(w.alloc o).heap[n]?=some o:=by subst h; exact heap_alloc_new _ _
theorem cU{w:World}(o:Obj){n:Nat}{p:Obj}(h:w.heap[n]?=some p):(w.alloc o).heap[n]?=some p:=by rw[Below.heap_alloc _ _ _ (Gl h)]; exact h
theorem cells_at{w:World}{M k:Nat}{cs:Array Value}{T:TypeId}{v:Value}(h:w.heap[M]?=some (.cells cs T (0,0)))(hk:cs[k]?=some v):w.cell? ⟨M,k,none⟩=some v/\w.frozen? ⟨M,k,none⟩=false:=by simp[World.cell?,World.frozen?,h,hk]
theorem set_self{cs:Array Value}{k:Nat}{v:Value}(h:cs[k]?=some v):cs.setIfInBounds k v=cs:=by
 apply Array.ext
 .simp
 .intro i h1 h2;rw[Array.getElem_setIfInBounds]
  split
  .subst_vars;obtain⟨_,e⟩:=Array.getElem?_eq_some_iff.1 h;exact e.symm
  .rfl
end
section
open Go.RowKit Go.Sort
theorem vN(s:St)(a:Option Addr)(cap:Nat)(c:bG)(w:World)(hr:bj w s a) : Calls Tryz.prog 126 #[dh s a cap,eX c] w λe w'=>e=.returned (.bool (fD s c))/\Below w.heap.size w w':=by
 have hq:=λ(o p:Obj)=>cH (Below.refl ((w.alloc o).alloc p).heap.size ((w.alloc o).alloc p));have hqr:∀o p d os,bj (Sort.grow (redrawn ((w.alloc o).alloc p) d) os) s a:=λo p d os=>(hr.below ((ay w o).alloc (by simp) p)).below (below_regrown _ d os);have PK:=Hs (fD s c=(decide (0<c.key) && decide (keyOf s.regs c.who=c.key))) rfl;by_cases hk:0<c.key
 .have Ly:decide (0<c.key)=true:=by simpa using hk
  go_enter Tryz.func126,Tryz.ntmps126
  go_wp2;refine wp_region_quiet_below (by kernel_rfl) (by kernel_rfl) ?_
  repeat(go_big_quiet_step (exact Calls.regrown_of (eN s a cap c.who _ (hqr _ _ _ _))))
  refine wpQuiet_nil ?_;rintro w' ⟨⟨dq,osq⟩,rfl⟩;go_wp2;go_ret;exact⟨aA (by rw[PK.out,Ly,Bool.true_and]; rfl),((ay w _).alloc (by simp) _).trans ((below_regrown _ dq osq).mono (by simp; omega))⟩
 .have Ly:decide (0<c.key)=false:=by simpa using hk
  go_enter Tryz.func126,Tryz.ntmps126
  go_wp2;refine wp_region_quiet_below (by kernel_rfl) (by kernel_rfl) ?_
  repeat(go_big_quiet_step (exact Calls.regrown_of (eN s a cap c.who _ (hqr _ _ _ _))))
  refine wpQuiet_nil ?_;rintro w' ⟨⟨dq,osq⟩,rfl⟩;go_wp2;go_ret;exact⟨aA (by rw[PK.out,Ly]; rfl),((ay w _).alloc (by simp) _).trans ((below_regrown _ dq osq).mono (by simp; omega))⟩
theorem dt(w:World)(o p q:Obj):Below w.heap.size w (((w.alloc o).alloc p).alloc q):=((ay w o).alloc (by simp) p).alloc (by simp; omega) q
abbrev GI(s:St)(a:Option Addr)(cap:Nat)(t h:Int):Value:=.agg #[.int .i64 s.gen,.slice a s.regs.length cap,.int .i64 t,.int .i64 h,.bool s.stays]
def fg(s:St)(a:Option Addr)(cap:Nat)(c:bG)(w:World)(e:Ending)(w':World):Prop :=
 e=.returned (.tuple #[GI s a cap (bB s c).1.typ (bB s c).1.holder,bg (bB s c).2])/\Below w.heap.size w w'
theorem fg.mk{s:St}{a:Option Addr}{cap:Nat}{c:bG}{w w':World}{e:Ending}{t:St}{f:Int}(hp:bB s c=(t,f))(he:e=.returned (.tuple #[GI s a cap t.typ t.holder,bg f]))(hb:Below w.heap.size w w'):fg s a cap c w e w':=by unfold fg; rw[hp]; exact⟨he,hb⟩
theorem Hw(s:St)(a:Option Addr)(cap:Nat)(c:bG)(w:World)(hr:bj w s a) : Calls Tryz.prog 128 #[dh s a cap,eX c] w (fg s a cap c w):=by
 have MP:∀o p q,bj (((w.alloc o).alloc p).alloc q) s a:=λo p q=>((hr.below (ay w o)).below (ay _ p)).below (ay _ q);have HR:=Hx MP;clear MP hr;by_cases h0:0<s.typ
 .have P0:=Hs (bB s c=(if holds s c.who=true/\s.typ=c.typ then(s,0) else(s,4))) (by unfold bB; rw[if_pos h0]);cases hh:holds s c.who
  .have P1:=Hx (P0.out.trans (if_neg (by rw[hh]; simp)));clear P0;go_enter Tryz.func128,Tryz.ntmps128
   go_wp2_with fail;refine(cN s a cap c.who _ (HR.out _ _ _)).mono ?_;rintro e w1 ⟨rfl,b1⟩;rw[hh];clear hh;obtain⟨hcc,hf⟩:=dr b1;go_wp2;refine bodyPost_ret (v:=.tuple #[.agg #[.int .i64 s.gen,.slice a s.regs.length cap,.int .i64 s.typ,.int .i64 s.holder,.bool s.stays],.iface 108 (.int .i64 4)]) (by simp[results,Tryz.results128,go_sem, *]) rfl ?_;refine fg.mk P1.out rfl ?_
   repeat(first|with_reducible refine Below.setCell ?_ (by simp<;>omega) _ | exact(dt w _ _ _).trans (b1.mono (by simp; omega)))
  .by_cases ht:s.typ=c.typ
   .have P1:=Hx (P0.out.trans (if_pos ⟨hh,ht⟩))
    have htb:(s.typ == c.typ)=true:=by simp[ht]
    clear P0 ht;go_enter Tryz.func128,Tryz.ntmps128
    go_wp2_with fail;refine(cN s a cap c.who _ (HR.out _ _ _)).mono ?_;rintro e w1 ⟨rfl,b1⟩;rw[hh];clear hh;obtain⟨hcc,hf⟩:=dr b1;go_wp2;refine bodyPost_ret (v:=.tuple #[.agg #[.int .i64 s.gen,.slice a s.regs.length cap,.int .i64 s.typ,.int .i64 s.holder,.bool s.stays],.nilIface]) (by simp[results,Tryz.results128,go_sem, *]) rfl ?_;refine fg.mk P1.out rfl ?_
    repeat(first|with_reducible refine Below.setCell ?_ (by simp<;>omega) _ | exact(dt w _ _ _).trans (b1.mono (by simp; omega)))
   .have P1:=Hx (P0.out.trans (if_neg (λx=>ht x.2)))
    have htb:(s.typ == c.typ)=false:=by simp[ht]
    clear P0 ht;go_enter Tryz.func128,Tryz.ntmps128
    go_wp2_with fail;refine(cN s a cap c.who _ (HR.out _ _ _)).mono ?_;rintro e w1 ⟨rfl,b1⟩;rw[hh];clear hh;obtain⟨hcc,hf⟩:=dr b1;go_wp2;refine bodyPost_ret (v:=.tuple #[.agg #[.int .i64 s.gen,.slice a s.regs.length cap,.int .i64 s.typ,.int .i64 s.holder,.bool s.stays],.iface 108 (.int .i64 4)]) (by simp[results,Tryz.results128,go_sem, *]) rfl ?_;refine fg.mk P1.out rfl ?_
    repeat(first|with_reducible refine Below.setCell ?_ (by simp<;>omega) _ | exact(dt w _ _ _).trans (b1.mono (by simp; omega)))
 .have P1:=Hs (bB s c=(s.take c.typ c.who,0)) (by unfold bB; rw[if_neg h0]);have TH:=Hs ((s.take c.typ c.who).holder=if allT c.typ then 0 else c.who) rfl;clear HR;cases hal:allT c.typ
  .have TH1:=Hs ((s.take c.typ c.who).holder=c.who) (by rw[TH.out]; simp[hal]);clear TH;go_enter Tryz.func128,Tryz.ntmps128
   go_wp2;go_region;go_wp2_with fail;refine(cS ⟨s.gen,s.regs,c.typ,c.who,s.stays⟩ a cap _).mono ?_;rintro e w1 ⟨rfl,b1⟩;dsimp only;rw[hal];clear hal;obtain⟨hcc,hf⟩:=dr b1;go_wp2;refine bodyPost_ret (v:=.tuple #[.agg #[.int .i64 s.gen,.slice a s.regs.length cap,.int .i64 c.typ,.int .i64 c.who,.bool s.stays],.nilIface]) (by simp[results,Tryz.results128,go_sem, *]) rfl ?_;refine fg.mk P1.out (by rw[TH1.out]; rfl) ?_
   repeat(first|with_reducible refine Below.setCell ?_ (by simp<;>omega) _ | exact(dt w _ _ _).trans ((((Below.refl _ _).drew).trans b1).mono (by simp; omega)))
  .have TH1:=Hs ((s.take c.typ c.who).holder=0) (by rw[TH.out]; simp[hal]);clear TH;go_enter Tryz.func128,Tryz.ntmps128
   go_wp2;go_region;go_wp2_with fail;refine(cS ⟨s.gen,s.regs,c.typ,c.who,s.stays⟩ a cap _).mono ?_;rintro e w1 ⟨rfl,b1⟩;dsimp only;rw[hal];clear hal;obtain⟨⟨d0,d1,d2,d3,d4⟩,f0,f1,f2,f3,f4⟩:=bP b1 (b:=w.heap.size) (by simp; omega) (aO w _ _ _).1;obtain⟨⟨e0,e1,e2,e3,e4⟩,g0,g1,g2,g3,g4⟩:=bP b1 (b:=w.heap.size+1+1) (by simp) (aO w _ _ _).2.2;go_wp2;refine bodyPost_ret (v:=.tuple #[.agg #[.int .i64 s.gen,.slice a s.regs.length cap,.int .i64 c.typ,.int .i64 0,.bool s.stays],.nilIface]) (by simp[results,Tryz.results128,go_sem, *]) rfl ?_;refine fg.mk P1.out (by rw[TH1.out]; rfl) ?_
   repeat(first|with_reducible refine Below.setCell ?_ (by simp<;>omega) _ | exact(dt w _ _ _).trans ((((Below.refl _ _).drew).trans b1).mono (by simp; omega)))
end
section
open Go.RowKit
structure ac (S:Nat->Prop) (w w':World):Prop where
 os:w'.os=w.os
 tape:w'.tape=w.tape
 output:w'.output=w.output
 size:w.heap.size<=w'.heap.size
 block:∀k,¬ S k->k<w.heap.size->w'.heap[k]?=w.heap[k]?
theorem ac.refl(S:Nat->Prop)(w:World):ac S w w:=⟨rfl,rfl,rfl,Nat.le_refl _,λ_ _ _=>rfl⟩
theorem ac.trans{S:Nat->Prop}{a b c:World}(h:ac S a b)(k:ac S b c):ac S a c :=
 ⟨k.os.trans h.os,k.tape.trans h.tape,k.output.trans h.output,Nat.le_trans h.size k.size,λi hi hs=>(k.block i hi (Nat.lt_of_lt_of_le hs h.size)).trans (h.block i hi hs)⟩
theorem ac.drew{S:Nat->Prop}{a w:World}(h:ac S a w):ac S a w.drew:=⟨h.os,h.tape,h.output,h.size,h.block⟩
theorem ac.drewN{S:Nat->Prop}{a w:World}(h:ac S a w)(n:Nat):ac S a (w.drewN n):=⟨h.os,h.tape,h.output,h.size,h.block⟩
theorem ac.setCell{S:Nat->Prop}{a w:World}(h:ac S a w){p:Addr}(hp:S p.block)(u:Value):ac S a (w.setCell p u) :=
 h.trans ⟨rfl,rfl,rfl,by simp[World.setCell],λk hk _=>Below.heap_setCell _ _ _ _ (λe=>hk (e▸hp))⟩
theorem ac.alloc{S:Nat->Prop}{a w:World}(h:ac S a w)(o:Obj):ac S a (w.alloc o) :=
 h.trans ⟨rfl,rfl,rfl,by simp,λk _ hk=>Below.heap_alloc _ _ _ hk⟩
theorem ac.of_below{S:Nat->Prop}{w w':World}(h:Below w.heap.size w w'):ac S w w':=⟨h.os,h.tape,h.output,h.size,λk _ hk=>h.block k hk⟩
theorem ac.mono{S T:Nat->Prop}{w w':World}(h:ac S w w')(hS:∀k,S k->T k):ac T w w':=⟨h.os,h.tape,h.output,h.size,λk hk hs=>h.block k (λe=>hk (hS k e)) hs⟩
theorem ac.below{S:Nat->Prop}{w w':World}(h:ac S w w'){B:Nat}(hB:B<=w.heap.size)(hS:∀k,S k->B<=k):Below B w w' :=
 ⟨h.os,h.tape,h.output,h.size,λk hk=>h.block k (λe=>by have:=hS k e; omega) (by omega)⟩
theorem ac.cell{S:Nat->Prop}{w w':World}(h:ac S w w'){b o:Nat}(hs:¬ S b)(hb:b<w.heap.size):w'.cell? ⟨b,o,none⟩=w.cell? ⟨b,o,none⟩ :=
 World.cell?_of_block (w:=w) (a:=⟨b,o,none⟩) (h.block b hs hb)
theorem block_setCell{w:World}{M o:Nat}{cs:Array Value}{T:TypeId}(h:w.heap[M]?=some (.cells cs T (0,0)))(u:Value):(w.setCell ⟨M,o,none⟩ u).heap[M]?=some (.cells (cs.setIfInBounds o u) T (0,0)):=by simp only[World.setCell,Array.getElem?_modify,if_pos,h];rfl
theorem bh.keeps{S:Nat->Prop}{B:Nat}{w w':World}{v:Value}{l:List Int}(h:bh B w v l)(k:ac S w w')(hS:∀k,S k->k<B):bh B w' v l:=by
 obtain⟨h1,h2⟩:=h;refine⟨h1,?_⟩
 rcases h2 with h2 | ⟨g,cap,cur,e1,e2,e3,e4⟩
 .exact .inl h2
 .refine .inr ⟨g,cap,cur,e1,e2,?_,e4⟩;rw[k.block g (λe=>by have:=hS g e; omega) (Gl e3)];exact e3
theorem bh.ints{B:Nat}{w:World}{a:Option Addr}{l:List Int}{c:Nat}(h:bh B w (.slice a l.length c) l):Ints w.heap.size w a l:=by obtain⟨a',c',e,hi⟩:=h.shape;cases e; exact hi
theorem Ints.keeps{S:Nat->Prop}{B:Nat}{w w':World}{a:Option Addr}{l:List Int}(h:Ints B w a l)(k:ac S w w')(hB:B<=w.heap.size)(hS:∀k,S k->B<=k):Ints B w' a l :=
 h.below (k.below hB hS) (Nat.le_refl _)
def fB (B:Nat)(w:World)(a:Option Addr)(l:List Int):Prop :=
 ∀i (h:i<l.length),∃b o,a=some ⟨b,o,none⟩/\B<=b/\b<w.heap.size/\w.cell? ⟨b,o+i,none⟩=some (.int .i64 l[i])
theorem fB.ints{B:Nat}{w:World}{a:Option Addr}{l:List Int}(h:fB B w a l):Ints w.heap.size w a l:=by intro i hi;obtain⟨b,o,e,_,h2,h3⟩:=h i hi;exact⟨b,o,e,h2,h3⟩
theorem fB.keeps{S:Nat->Prop}{B:Nat}{w w':World}{a:Option Addr}{l:List Int}(h:fB B w a l)(k:ac S w w')(hS:∀k,S k->k<B):fB B w' a l:=by intro i hi;obtain⟨b,o,e,h1,h2,h3⟩:=h i hi;exact⟨b,o,e,h1,Nat.lt_of_lt_of_le h2 k.size,by rw[k.cell (λx=>by have:=hS _ x; omega) h2]; exact h3⟩
theorem fB.mono{B C:Nat}{w:World}{a:Option Addr}{l:List Int}(h:fB B w a l)(hC:C<=B):fB C w a l:=by intro i hi;obtain⟨b,o,e,h1,h2⟩:=h i hi;exact⟨b,o,e,by omega,h2⟩
theorem fB.nil(B:Nat)(w:World)(a:Option Addr):fB B w a []:=λi hi=>absurd hi (by simp)
theorem fB.tail{B:Nat}{w:World}{b o:Nat}{x:Int}{t:List Int}(h:fB B w (some ⟨b,o,none⟩) (x :: t)):fB B w (some ⟨b,o+1,none⟩) t:=by
 intro i hi;obtain⟨b',o',e,h0,h1,c1⟩:=h (i+1) (by simp; omega)
 obtain⟨rfl,rfl⟩:b=b'/\o=o':=by simpa using e
 exact⟨b,o+1,rfl,h0,h1,by rw[show o+1+i=o+(i+1) from by omega,c1]; rfl⟩
theorem bh.hi{B:Nat}{w:World}{a:Option Addr}{l:List Int}{n c:Nat}(h:bh B w (.slice a n c) l):fB B w a l:=by
 obtain⟨h1,h2⟩:=h
 rcases h2 with⟨e,hn⟩ | ⟨g,cap,cur,e,hg,hh,hc,hm,hs,ht⟩
 .obtain rfl:=List.length_eq_zero_iff.1 hn;exact fB.nil _ _ _
 .cases e
  intro i hi
  have lB:g<w.heap.size:=(Gl hh)
  refine⟨g,0,rfl,hg,lB,?_⟩
  have wU:w.cell? ⟨g,0+i,none⟩=(l.map (Value.int .i64))[i]?:=by rw[<-ht,List.getElem?_take_of_lt (by omega)];simp[World.cell?,hh]
  rw[wU]; simp[hi]
