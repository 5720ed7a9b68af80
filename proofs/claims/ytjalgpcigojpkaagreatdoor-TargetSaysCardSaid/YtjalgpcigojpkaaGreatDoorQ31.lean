import Derived.Test.YtjalgpcigojpkaaGreatDoorQ30
set_option maxRecDepth 99999
set_option maxHeartbeats 99999999
namespace Go.Proofs.YtjalgpcigojpkaaGreatDoor
section
open Go.RowKit Go.Sort
structure Bz (T K:Nat) (ep at':Int) (pa pt:Nat) (w:World):Prop where
 ca:w.cell? ⟨pa,0,none⟩=some (.int .i64 at')
 ct:w.cell? ⟨pt,0,none⟩=some (.pointer (some ⟨T,0,none⟩))
 ck:w.cell? ⟨T,0,none⟩=some (.pointer (some ⟨K,0,none⟩))
 ep':∀w',Below w.heap.size w w'->Calls Tryz.prog 66 #[.pointer (some ⟨K,0,none⟩)] w' λe w''=>e=.returned (.int .i64 ep)/\w''=w'
theorem Bz.over{T K:Nat}{ep at':Int}{pa pt:Nat}{w w':World}(h:Bz T K ep at' pa pt w)(b:Below w.heap.size w w'):Bz T K ep at' pa pt w' :=
 ⟨(b.cell (p:=⟨pa,0,none⟩) (block_lt_of_cell h.ca)).trans h.ca,(b.cell (p:=⟨pt,0,none⟩) (block_lt_of_cell h.ct)).trans h.ct,(b.cell (p:=⟨T,0,none⟩) (block_lt_of_cell h.ck)).trans h.ck,λx bx=>h.ep' x (b.trans (bx.mono b.size))⟩
def iw(m:Ms)(ep at':Int):Bool:=decide (m.at'=at') && decide (m.c.e=ep)
theorem zL(T K:Nat)(ep at':Int)(pa pt:Nat)(m:Ms)(w:World)(h:Bz T K ep at' pa pt w) : Calls Tryz.prog 97 #[.agg #[.int .i64 m.tt,.int .i64 m.at',.int .i64 m.c.e,.int .i64 m.c.n,.string m.c.d,.int .i64 m.tag],.pointer (some ⟨pa,0,none⟩),.pointer (some ⟨pt,0,none⟩)] w λe w'=>e=.returned (.bool (iw m ep at'))/\Below w.heap.size w w':=by
 obtain⟨D,hD⟩:=Nm (iw m ep at');rw[hD];have HD:=Hx hD;clear hD;obtain⟨w1,pX⟩:=Nn (w.alloc (.cells #[.int .i64 m.tt,.int .i64 m.at',.int .i64 m.c.e,.int .i64 m.c.n,.string m.c.d,.int .i64 m.tag] 124));have B1:=Hs (Below w.heap.size w w1) (pX▸ay w _);have R1:=Hs (w1.heap[w.heap.size]?=some (.cells #[.int .i64 m.tt,.int .i64 m.at',.int .i64 m.c.e,.int .i64 m.c.n,.string m.c.d,.int .i64 m.tag] 124 (0,0))) (pX▸heap_alloc_new w _);have H1:=Hx (h.over B1.out)
 have lB:w.heap.size<w1.heap.size:=(Gl R1.out)
 go_enter Tryz.func97,Tryz.ntmps97
 go_upto_region 1 with fail;rw[<-pX];clear h pX
 have c0:w1.cell? ⟨w.heap.size,1,none⟩=some (.int .i64 m.at'):=by simp[World.cell?,R1.out]
 have c1:w1.cell? ⟨w.heap.size,2,none⟩=some (.int .i64 m.c.e):=by simp[World.cell?,R1.out]
 obtain⟨ca,ct,ck,-⟩:=H1.out;have la:=block_lt_of_cell ca;have lt:=block_lt_of_cell ct;have lk:=block_lt_of_cell ck;have hq:=cH (Below.refl w1.heap.size w1);have EP:=Hx (λx (bx:Below w1.heap.size w1 x)=>(H1.out.ep' x bx).mono (λ(e:Ending) (w':World) (q:e=.returned (.int .i64 ep)/\w'=x)=>(⟨q.1,q.2▸Below.refl _ _⟩:e=.returned (.int .i64 ep)/\Below x.heap.size x w')));by_cases h1:m.at'=at'
 .have h1b:(m.at' == at')=true:=by simp[h1]
  have PD:=Hs ((m.c.e == ep)=D) (by rw[<-HD.out,Bool.eq_iff_iff]; simp[iw,h1]);clear h1;refine wp_region_quiet_below (by kernel_rfl) (by kernel_rfl) ?_
  repeat(go_big_quiet_step (exact Calls.regrown_of (EP.out _ (below_regrown w1 _ _))))
  refine wpQuiet_nil ?_;rintro w' ⟨⟨dq,osq⟩,rfl⟩;go_wp2;go_ret;exact⟨by rw[PD.out]; rfl,B1.out.trans ((below_regrown _ dq osq).mono B1.out.size)⟩
 .have h1b:(m.at' == at')=false:=by simp[h1]
  have PD:=Hs (false=D) (by rw[<-HD.out]; simp[iw,h1]);clear h1;refine wp_region_quiet_below (by kernel_rfl) (by kernel_rfl) ?_
  repeat(go_big_quiet_step (exact Calls.regrown_of (EP.out _ (below_regrown w1 _ _))))
  refine wpQuiet_nil ?_;rintro w' ⟨⟨dq,osq⟩,rfl⟩;go_wp2;go_ret;exact⟨by rw[PD.out]; rfl,B1.out.trans ((below_regrown _ dq osq).mono B1.out.size)⟩
theorem vP{l:List Ms}{k:Nat}(hk:k<l.length):∀j,j<6->(cq l)[k*6+j]?=l[k].row[j]?:=by
 intro j hj
 have e1:(cq l).drop (k*6)=l[k].row ++ cq (l.drop (k+1)):=by rw[ir,List.drop_eq_getElem_cons hk];rfl
 rw[<-List.getElem?_drop,e1,List.getElem?_append_left (by simpa[Ms.row] using hj)]
theorem za(T K:Nat)(ep at':Int)(pa pt B:Nat)(l:List Ms)(a:Option Addr)(cap:Nat)(w:World)(h:Bz T K ep at' pa pt w)(hl:l.length<=1000)(hr:dC B w (.slice a l.length cap) l) : Calls Tryz.prog 138 #[.slice a l.length cap,.func (.func 97) #[] #[.pointer (some ⟨pa,0,none⟩),.pointer (some ⟨pt,0,none⟩)]] w λe w'=>(∃i:Int,e=.returned (.int .i64 i)/\(0<=i ↔ (l.any λm=>iw m ep at')=true))/\Below w.heap.size w w':=by
 have HH:=Hx h;have HR:=Hx hr;clear h hr;go_enter Tryz.func138,Tryz.ntmps138
 go_wp2;go_loopw [8] (λi wr=>∃k:Nat,k<=l.length/\i=.int .i64 k/\(∀j (_:j<k) (hj:j<l.length),iw l[j] ep at'=false)/\Below w.heap.size w wr) (λi _=>l.length - (intOf i).toNat)
 case atStart=>exact⟨0,by omega,rfl,λj h=>absurd h (by omega),Below.refl _ _⟩
 case round =>
  obtain⟨k,hk,rfl,hK,Ir⟩:=hrel;have HK:=Hx hK; clear hK;have hs:=Ir.size;by_cases lB:k<l.length
  .have cells:∃g,a=some ⟨g,0,none⟩/\(wr.cell? ⟨g,k*6,none⟩=some (.int .i64 l[k].tt)/\wr.cell? ⟨g,k*6+1,none⟩=some (.int .i64 l[k].at')/\wr.cell? ⟨g,k*6+2,none⟩=some (.int .i64 l[k].c.e)/\wr.cell? ⟨g,k*6+3,none⟩=some (.int .i64 l[k].c.n)/\wr.cell? ⟨g,k*6+4,none⟩=some (.string l[k].c.d)/\wr.cell? ⟨g,k*6+5,none⟩=some (.int .i64 l[k].tag)):=by
    have hr:=HR.out;obtain⟨-,h2 | ⟨g,cap',cur,e1,e2,e3,-⟩⟩:=id hr
    .exact absurd h2.2 (by omega)
    obtain⟨rfl,rfl⟩:a=some ⟨g,0,none⟩/\cap=cap':=by simpa using e1
    have hg:=(Gl e3)
    have c:∀j v,j<6->l[k].row[j]?=some v->wr.cell? ⟨g,k*6+j,none⟩=some v:=λj v hj hv=>by have:=dC.cells hr (k*6+j) v (by rw[vP lB j hj,hv]);rw[Addr.add_lit,Nat.zero_add]at this;exact(Ir.cell (p:=⟨g,_,none⟩) hg).trans this
    exact⟨g,rfl,c 0 _ (by omega) rfl,c 1 _ (by omega) rfl,c 2 _ (by omega) rfl,c 3 _ (by omega) rfl,c 4 _ (by omega) rfl,c 5 _ (by omega) rfl⟩
   obtain⟨g,rfl,c0,c1,c2,c3,c4,c5⟩:=cells;obtain⟨m,hm⟩:=Nm (l[k]);rw[hm]at c0 c1 c2 c3 c4 c5;have B1:=Hx (zL T K ep at' pa pt m wr (HH.out.over Ir));go_wp2_with fail;refine B1.out.mono ?_;rintro e w1 ⟨rfl,wC⟩;have Ih:=Ir.trans (wC.mono hs);have HM:=Hx hm;clear hm;cases hv:iw m ep at'
   .have hn:∀j (_:j<k+1) (hj:j<l.length),iw l[j] ep at'=false:=by
     intro j h1 h2;by_cases e:j=k
     .subst e; rw[HM.out]; exact hv
     .exact HK.out j (by omega) h2
    have HN:=Hx hn;clear hn hv;go_wp2;go_roundw
    case rel=>exact⟨k+1,by omega,by go_num,HN.out,Ih⟩
    case measure=>simp[intOf]; omega
   .have HP:=Hs ((0<=(k:Int) ↔ (l.any λm=>iw m ep at')=true)) (by
     refine⟨λ_=>?_,λ_=>by omega⟩;rw[List.any_eq_true]
     exact⟨l[k],List.getElem_mem lB,by rw[HM.out]; exact hv⟩)
    clear hv;go_wp2;go_ret;exact⟨⟨_,rfl,HP.out⟩,Ih⟩
  .have HP:=Hs ((0<=(-1:Int) ↔ (l.any λm=>iw m ep at')=true)) (by
    refine⟨λh=>absurd h (by omega),λh=>?_⟩;obtain⟨m,hm,h2⟩:=List.any_eq_true.1 h;obtain⟨j,hj,e⟩:=List.getElem_of_mem hm;have:=HK.out j (by omega) hj;rw[e,h2]at this
    cases this)
   go_wp2;go_ret;exact⟨⟨_,rfl,HP.out⟩,Ir⟩
theorem sJ(T K:Nat)(ep at':Int)(pa pt B:Nat)(l:List Ms)(a:Option Addr)(cap:Nat)(w:World)(h:Bz T K ep at' pa pt w)(hl:l.length<=1000)(hr:dC B w (.slice a l.length cap) l) : Calls Tryz.prog 96 #[.slice a l.length cap,.func (.func 97) #[] #[.pointer (some ⟨pa,0,none⟩),.pointer (some ⟨pt,0,none⟩)]] w λe w'=>e=.returned (.bool (l.any λm=>iw m ep at'))/\Below w.heap.size w w':=by
 have IX:=Hx (za T K ep at' pa pt B l a cap w h hl hr);obtain⟨D,hD⟩:=Nm (l.any λm=>iw m ep at');rw[hD]at IX ⊢;clear h hr hD;go_enter Tryz.func96,Tryz.ntmps96
 go_wp2_with fail;refine IX.out.mono ?_;rintro e w1 ⟨⟨i,rfl,hi⟩,b1⟩;have HI:=Hs (decide (0<=i)=D) (by rw[Bool.eq_iff_iff,decide_eq_true_iff]; exact hi);clear hi;go_wp2;go_ret;exact⟨by rw[HI.out]; rfl,b1⟩
section
variable (w0 w:World) (n D T:Nat) (t:Tg) (Y:Nat->Prop)
theorem qt(at':Int)(h:bR w0 n D T t Y w)(hl:t.fly.length<=1000) : Calls Tryz.prog 48 #[.pointer (some ⟨T,0,none⟩),.int .i64 at'] w λe w'=>e=.returned (.bool (t.busy at'))/\Below w.heap.size w w':=by
 obtain⟨X,m,ki,tb,lo,hy⟩:=h;obtain⟨w1,pX⟩:=Nn ((w.alloc (.cells #[.pointer (some ⟨T,0,none⟩)] 26)).alloc (.cells #[.int .i64 at'] 3));have B1:=Hs (Below w.heap.size w w1) (pX▸(((Below.refl _ w).alloc (Nat.le_refl _) _).alloc (by simp) _));have C0:=(B1.out.cell (p:=⟨T,0,none⟩) (Gl tb.blk)).trans (aG tb.blk tb.ok).1.1
 have c2:w1.cell? ⟨w.heap.size,0,none⟩=some (.pointer (some ⟨T,0,none⟩)):=by rw[pX]; go_simp
 have c3:w1.cell? ⟨w.heap.size+1,0,none⟩=some (.int .i64 at'):=by rw[pX]; go_simp
 have BZ:=Hs (Bz T m.K t.k.ep at' (w.heap.size+1) w.heap.size w1) (⟨c3,c2,C0,λx bx=>gZ n w0 x X D m.K t.k ((ki.over B1.out).over bx)⟩);have OM:=Hs (dC w0.heap.size w1 (.slice m.fa t.fly.length m.fc) t.fly) (aV tb.fly (λb e=>B1.out.block b (ki.lt b (dW tb e).1)));have c4:=(B1.out.cell (p:=⟨T,86,none⟩) (Gl tb.blk)).trans (aG tb.blk tb.ok).1.2.2.2.2.2.2.2.2.1;have CT:=Hx (sJ T m.K t.k.ep at' (w.heap.size+1) w.heap.size w0.heap.size t.fly m.fa m.fc w1 BZ.out hl OM.out);obtain⟨R,hR⟩:=Nm (t.busy at');have HR:=Hs ((t.fly.any λm=>iw m t.k.ep at')=R) hR;rw[hR];clear ki tb lo hy hR;go_enter Tryz.func48,Tryz.ntmps48
 go_upto_region 1 with fail;have Jf:=pX;rw[<-Jf];clear pX Jf;go_wp2_with fail;refine CT.out.mono ?_;rintro e w2 ⟨rfl,b2⟩;rw[HR.out];go_wp2;go_ret;exact⟨rfl,B1.out.trans (b2.mono B1.out.size)⟩
theorem tu(bad at':Int)(h:bR w0 n D T t Y w)(hl:t.fly.length<=1000) : Calls Tryz.prog 49 #[.pointer (some ⟨T,0,none⟩),bg bad,.int .i64 at'] w λe w'=>e=.returned (bg (t.refuse bad at'))/\Below w.heap.size w w':=by
 by_cases hb:bad=0
 .subst hb;rw[aH];have BU:=Hx (qt w0 w n D T t Y at' h hl);obtain⟨R,hR⟩:=Nm (t.busy at');rw[hR]at BU;have E:=Hs (t.refuse 0 at'=if R then 7 else 9) (by unfold Tg.refuse; rw[if_neg (λh=>h rfl),hR]);clear h hR;cases R
  .go_enter Tryz.func49,Tryz.ntmps49
   go_wp2_with fail;refine BU.out.mono ?_;rintro e w2 ⟨rfl,b2⟩;go_wp2;go_ret;exact⟨by rw[E.out]; rfl,b2⟩
  .go_enter Tryz.func49,Tryz.ntmps49
   go_wp2_with fail;refine BU.out.mono ?_;rintro e w2 ⟨rfl,b2⟩;go_wp2;go_ret;exact⟨by rw[E.out]; rfl,b2⟩
 .have E:=Hs (t.refuse bad at'=bad) (by unfold Tg.refuse; rw[if_pos hb]);rw[aK hb,E.out,aK hb];clear h;go_enter Tryz.func49,Tryz.ntmps49
  go_wp2;go_ret;exact⟨rfl,Below.refl _ _⟩
end
