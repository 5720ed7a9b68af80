import Derived.Test.YtjalgpcigojpkaaGreatDoorQ13
set_option maxRecDepth 99999
set_option maxHeartbeats 99999999
namespace Go.Proofs.YtjalgpcigojpkaaGreatDoor
section
open Go.RowKit
def cJ (S:aw->Prop)(g:Gp):Prop:=∀r∈g.r,∀x∈r.cells,S x
theorem cJ.mono{S T:aw->Prop}{g:Gp}(h:cJ S g)(hST:∀x,S x->T x):cJ T g:=λr hr x hx=>hST x (h r hr x hx)
theorem cJ.setR{S:aw->Prop}{g:Gp}(h:cJ S g)(i:Nat){r:Rp}(hr:∀x∈r.cells,S x):cJ S (g.setR i r):=by
 intro q hq x hx
 rcases List.mem_or_eq_of_mem_set hq with h1 | h1
 .exact h q h1 x hx
 .subst h1; exact hr x hx
theorem cJ.getR{S:aw->Prop}{g:Gp}(h:cJ S g)(hz:S aw.zero)(i:Nat):∀x∈(g.r.getD i Rp.zero).cells,S x:=by
 intro x hx;by_cases hi:i<g.r.length
 .simp only[List.getD_eq_getElem?_getD,List.getElem?_eq_getElem hi,Option.getD_some]at hx;exact h _ (List.getElem_mem hi) x hx
 .rw[List.getD_eq_getElem?_getD,List.getElem?_eq_none (by omega)]at hx;have:=(List.mem_replicate.1 (show x∈List.replicate 8 aw.zero from hx)).2;rw[this]; exact hz
theorem EX{S:aw->Prop}{r:Rp}(h:∀x∈r.cells,S x)(hz:S aw.zero)(k:Nat):S (r.get k):=by
 unfold Rp.get;by_cases hk:k<r.cells.length
 .simp only[List.getD_eq_getElem?_getD,List.getElem?_eq_getElem hk,Option.getD_some];exact h _ (List.getElem_mem hk)
 .rw[List.getD_eq_getElem?_getD,List.getElem?_eq_none (by omega)]; exact hz
theorem cJ.setU{S:aw->Prop}{g:Gp}(h:cJ S g)(i:Nat)(b:Bool):cJ S (g.setU i b):=h
theorem cJ.fenceTo{S:aw->Prop}{g:Gp}(h:cJ S g)(hz:S aw.zero)(ep:Int):∀k,cJ S (g.fenceTo ep k)
 | 0=>h
 | k+1=>by
  have ih:=cJ.fenceTo h hz ep k;unfold Gp.fenceTo
  split
  .refine ih.setR k ?_;have:=ih.getR hz k;unfold Rp.fence
   split
   .exact this
   .exact this
  .exact ih
theorem cJ.fence{S:aw->Prop}{g:Gp}(h:cJ S g)(hz:S aw.zero)(ep:Int):cJ S (g.fence ep):=by
 unfold Gp.fence; split
 .exact h.fenceTo hz ep 3
 .exact h
theorem sO{S:aw->Prop}(hz:S aw.zero)(k:Nat)(l:List Rp)(h:∀r∈l,S (r.get k)):S (bK k l):=by
 have:∀(l:List Rp) (b:aw),S b->(∀r∈l,S (r.get k))->S (l.foldl (λb r=>if aC (r.get k) b then r.get k else b) b):=by
  intro l
  induction l with
  | nil=>intro b hb _; exact hb
  | cons r l ih =>
   intro b hb hl;refine ih _ ?_ (λq hq=>hl q (by simp[hq]));dsimp only
   split
   .exact hl r (by simp)
   .exact hb
 exact this l _ hz h
theorem jO{g:Gp}{ep:Int}{r:Rp}(h:r∈g.frm ep):∃i,i<3/\g.isM ep i=true/\r=g.r.getD i Rp.zero:=by obtain⟨x,hx,rfl⟩:=List.mem_map.1 h;obtain⟨i,rfl,hi,hm⟩:=Gp.mem_lt hx;exact⟨i,hi,hm,rfl⟩
theorem jK{g:Gp}{ep:Int}{i:Nat}(hi:i<3)(hm:g.isM ep i=true):g.r.getD i Rp.zero∈g.frm ep:=by refine List.mem_map.2 ⟨(i:Int),?_,rfl⟩;unfold Gp.mem Gp.memTo;exact List.mem_map.2 ⟨i,List.mem_filter.2 ⟨List.mem_range.2 hi,hm⟩,rfl⟩
theorem cJ.sync{S:aw->Prop}{g:Gp}(h:cJ S g)(hz:S aw.zero)(ep:Int)(i:Nat):cJ S (g.sync ep i):=by
 unfold Gp.sync; split
 .refine h.setR i ?_;intro x hx;obtain⟨j,hj,rfl⟩:=List.mem_iff_getElem.1 hx
  have Ll:j<8:=by have:=gq (g.frm ep); simp at hj; omega
  have e:=iQ (g.frm ep) j Ll;simp only[List.getD_eq_getElem?_getD,List.getElem?_eq_getElem hj,Option.getD_some]at e;rw[e];refine sO hz j _ (λr hr=>?_);obtain⟨i,-,-,rfl⟩:=jO hr;exact EX (h.getR hz i) hz j
 .exact h
theorem cJ.deliver{S:aw->Prop}{g:Gp}(h:cJ S g)(hz:S aw.zero)(i k:Nat){c:aw}(hc:S c):cJ S (g.deliver i k c):=by
 unfold Gp.deliver; split
 .refine h.setR i ?_;unfold Rp.admitC
  split
  .intro x hx
   rcases List.mem_or_eq_of_mem_set hx with h1 | h1
   .exact h.getR hz i x h1
   .rw[h1]; exact hc
  .exact h.getR hz i
 .exact h
theorem cJ.putAll{S:aw->Prop}(hz:S aw.zero)(k:Nat){c:aw}(hc:S c):∀(l:List Int) (g:Gp),cJ S g->cJ S (g.putAll k c l)
 | [],_,h=>h
 | x :: l,g,h=>by
  refine cJ.putAll hz k hc l _ (h.setR _ ?_);intro y hy
  rcases List.mem_or_eq_of_mem_set hy with h1 | h1
  .exact h.getR hz _ y h1
  .rw[h1]; exact hc
theorem cJ.start{S:aw->Prop}(hz:S aw.zero):cJ S Gp.start:=by intro r hr x hx;have e:=(List.mem_replicate.1 hr).2;subst e;have:=(List.mem_replicate.1 (show x∈List.replicate 8 aw.zero from hx)).2;rw[this]; exact hz
def cQ (g:Gp)(k i:Nat):aw:=(g.r.getD i Rp.zero).get k
theorem rC{S:aw->Prop}{g:Gp}(h:cJ S g)(hz:S aw.zero)(k i:Nat):S (cQ g k i):=EX (h.getR hz i) hz k
theorem qX{g:Gp}{i j:Nat}{r:Rp}(hi:i<g.r.length):(g.setR i r).r.getD j Rp.zero=if j=i then r else g.r.getD j Rp.zero:=by
 unfold Gp.setR;by_cases h:j=i
 .subst h; simp[hi]
 .rw[if_neg h]; simp[List.getD_eq_getElem?_getD,List.getElem?_set_ne (Ne.symm h)]
theorem fU{g:Gp}{k i j:Nat}{r:Rp}(hi:i<g.r.length):cQ (g.setR i r) k j=if j=i then r.get k else cQ g k j:=by
 unfold cQ;rw[qX hi]
 split<;>rfl
theorem kY{g:Gp}(hg:g.ok)(ep:Int)(k j:Nat):∀n,n<=3->cQ (g.fenceTo ep n) k j=cQ g k j
 | 0,_=>rfl
 | n+1,hn=>by
  have ih:=kY hg ep k j n (by omega);have ok:=Gp.fenceTo_ok hg ep n (by omega);unfold Gp.fenceTo
  split
  .rw[fU (by rw[ok.r3]; omega)]
   split
   .rename_i h;rw[<-ih,h];unfold cQ Rp.fence
    split<;>rfl
   .exact ih
  .exact ih
theorem nY{g:Gp}(hg:g.ok)(ep:Int)(k j:Nat):cQ (g.fence ep) k j=cQ g k j:=by
 unfold Gp.fence; split
 .exact kY hg ep k j 3 (by omega)
 .rfl
theorem iR{g:Gp}{ep:Int}(h:2<=(g.mem ep).length){i j:Nat}(Ln:i<j)(hj:j<3):g.isM ep i=true\/g.isM ep j=true:=by
 have hl:(g.mem ep).length=(g.isM ep 0).toNat+(g.isM ep 1).toNat+(g.isM ep 2).toNat:=by
  unfold Gp.mem Gp.memTo;rw[List.length_map,show List.range 3=[0,1,2] from rfl]
  cases h0:g.isM ep 0<;>cases h1:g.isM ep 1<;>cases h2:g.isM ep 2<;>simp[h0,h1,h2]
 rw[hl]at h
 rcases (by omega:(i=0/\j=1)\/(i=0/\j=2)\/(i=1/\j=2)) with⟨rfl,rfl⟩ | ⟨rfl,rfl⟩ | ⟨rfl,rfl⟩ <;>
  cases h0:g.isM ep 0<;>cases h1:g.isM ep 1<;>cases h2:g.isM ep 2<;>simp[h0,h1,h2]at h ⊢
theorem ut{g:Gp}{ep:Int}(h:2<=(g.mem ep).length):∃i j,i<j/\j<3/\g.isM ep i=true/\g.isM ep j=true:=by
 have h01:=iR h (i:=0) (j:=1) (by omega) (by omega);have h02:=iR h (i:=0) (j:=2) (by omega) (by omega);have h12:=iR h (i:=1) (j:=2) (by omega) (by omega)
 cases h0:g.isM ep 0<;>cases h1:g.isM ep 1<;>cases h2:g.isM ep 2<;>simp[h0,h1,h2]at h01 h02 h12
 .exact⟨1,2,by omega,by omega,h1,h2⟩
 .exact⟨0,2,by omega,by omega,h0,h2⟩
 .exact⟨0,1,by omega,by omega,h0,h1⟩
 .exact⟨0,1,by omega,by omega,h0,h1⟩
theorem vY{g:Gp}{ep:Int}{i:Nat}(hi:i<3)(h:g.isM ep i=true):(i:Int)∈g.mem ep:=by unfold Gp.mem Gp.memTo;exact List.mem_map.2 ⟨i,List.mem_filter.2 ⟨List.mem_range.2 hi,h⟩,rfl⟩
def kV (a b:aw):Prop:=b=a\/aC b a=true
theorem uo{a b c:aw}(h:aC a b=true)(g:aC b c=true):aC a c=true:=by unfold aC at h g⊢;simp only[decide_eq_true_eq]at h g⊢;omega
theorem kV.trans{a b c:aw}(h:kV a b)(g:kV b c):kV a c:=by
 rcases g with rfl | g
 .exact h
 .rcases h with rfl | h
  .exact .inr g
  .exact .inr (uo g h)
structure Gh (S:aw->Prop):Prop where
 z:S aw.zero
 uni:∀x y,S x->S y->x.n=y.n->x=y
theorem yb{g:Gp}(hg:g.ok){k:Nat}(hk:k<8)(c:aw){i:Nat}(hi:i<3)(j:Nat):cQ (g.put1 k c i) k j=if j=i then c else cQ g k j:=by
 unfold Gp.put1;rw[show(i:Int).toNat=i from rfl,fU (by rw[hg.r3]; exact hi)]
 split
 .exact Rp.get_set c (by rw[Gp.getR hg hi]; exact hk)
 .rfl
theorem gJ{k:Nat}(hk:k<8)(c:aw)(j:Nat):∀(l:List Int) (g:Gp),g.ok->(∀x∈l,∃i:Nat,x=i/\i<3)->cQ (g.putAll k c l) k j=if (j:Int)∈l then c else cQ g k j
 | [],g,_,_=>rfl
 | x :: l,g,hg,hl=>by
  obtain⟨i,rfl,hi⟩:=hl x (by simp);have ih:=gJ hk c j l (g.put1 k c i) (Gp.put1_ok hg k c hi) (λy hy=>hl y (by simp[hy]));have e:g.putAll k c ((i:Int) :: l)=(g.put1 k c i).putAll k c l:=rfl;rw[e,ih,yb hg hk c hi];by_cases hm:(j:Int)∈l
  .rw[if_pos hm,if_pos (by simp[hm])]
  .rw[if_neg hm];by_cases hji:j=i
   .subst hji; rw[if_pos rfl,if_pos (by simp)]
   .rw[if_neg hji,if_neg (by simp[hm]; omega)]
theorem lE{g:Gp}{ep:Int}:∀x∈g.mem ep,∃i:Nat,x=i/\i<3:=λx hx=>by obtain⟨i,e,hi,-⟩:=Gp.mem_lt hx;exact⟨i,e,hi⟩
structure RInv (S:aw->Prop) (was:aw) (k:Nat) (g:Gp):Prop where
 all:cJ S g
 two:∃i j,i<j/\j<3/\kV was (cQ g k i)/\kV was (cQ g k j)
theorem RInv.read{S:aw->Prop}{k:Nat}{g:Gp}(f:Gh S)(h:cJ S g)(hg:g.ok)(hk:k<8){ep:Int}(hm:2<=(g.mem ep).length):RInv S (g.readC ep k) k (g.read ep k):=by
 have hc:g.readC ep k=bK k (g.frm ep):=if_pos hm;have hr:g.read ep k=g.putAll k (g.readC ep k) (g.mem ep):=if_pos hm
 have hS:S (g.readC ep k):=by rw[hc];refine sO f.z k _ (λr hr=>?_);obtain⟨i,-,-,rfl⟩:=jO hr;exact rC h f.z k i
 rw[hr];refine⟨cJ.putAll f.z k hS _ _ h,?_⟩;obtain⟨i,j,Ln,hj,L2,Lm⟩:=ut hm;refine⟨i,j,Ln,hj,?_,?_⟩
 .rw[gJ hk _ _ _ _ hg lE,if_pos (vY (by omega) L2)]; exact .inl rfl
 .rw[gJ hk _ _ _ _ hg lE,if_pos (vY hj Lm)]; exact .inl rfl
end
section
open Go.ChangeShapes Go.WideShapes Go.ChangeAt Go.RowKit Go.Deep
structure Ms where
 tt:Int
 at':Int
 c:aw
 tag:Int
abbrev Ms.v(m:Ms):Value:=.agg #[.int .i64 m.tt,.int .i64 m.at',.int .i64 m.c.e,.int .i64 m.c.n,.string m.c.d,.int .i64 m.tag]
section
variable {H:Type} {enc:TypeId × Value->H} {w:World} {base:Nat}
end
end
section
open Go.RowKit
theorem lH(s:ByteArray)(c:Int)(w:World) : Calls Tryz.prog 159 #[.string s,.int .u8 c] w λe w'=>e=.returned (.int .i64 (Lib.indexByte s.data.toList c.toNat.toUInt8))/\w'=w:=by
 go_enter Tryz.func159,Tryz.ntmps159
 go_wp2;rw[run_callFunc_extern Tryz.func185 (by kernel_rfl) (by kernel_rfl) (by kernel_rfl) (e:=Extern.BytealgIndexByte.indexByte) (by kernel_rfl),Lib.run_indexByteString];simp only[Result.andThen];rw[Oper.upon_value];go_wp2;go_ret;exact⟨rfl,rfl⟩
theorem qc(s:ByteArray)(c:Int)(w:World) : Calls Tryz.prog 121 #[.string s,.int .u8 c] w λe w'=>e=.returned (.int .i64 (Lib.indexByte s.data.toList c.toNat.toUInt8))/\w'=w:=by
 go_enter Tryz.func121,Tryz.ntmps121
 go_wp2_with fail;refine(lH s c _).mono ?_;rintro e w' ⟨rfl,rfl⟩;go_wp2;go_ret;exact⟨rfl,rfl⟩
def ew(s:ByteArray):Bool:=s.data.toList.all λb=>decide (97<=b.toNat/\b.toNat<=122)
theorem tN{s:ByteArray}{k:Nat}(h:k<s.size)(hb:¬ (97<=s[k].toNat/\s[k].toNat<=122)):ew s=false:=by unfold ew;rw[List.all_eq_false];exact⟨s[k],by rw[show s[k]=s.data.toList[k]'(by simpa using h) from rfl]; exact List.getElem_mem _,by simpa using hb⟩
theorem qA{s:ByteArray}(h:∀j (hj:j<s.size),97<=s[j].toNat/\s[j].toNat<=122):ew s=true:=by unfold ew;rw[List.all_eq_true];intro x hx;obtain⟨j,hj,rfl⟩:=List.getElem_of_mem hx;exact decide_eq_true (h j (by simpa using hj))
theorem decode_high{s:ByteArray}{k:Nat}(h:k<s.size)(hb:¬ s[k].toNat<128):128<=(Utf8.decode s k).1:=by
 have e:(s.get! k)=s[k]:=by cases s with | mk d=>exact getElem!_pos d k h
 unfold Utf8.decode;simp only[Nat.add_zero,e];rw[if_neg hb];unfold Utf8.runeError
 repeat' split
 all_goals ((try simp only[Bool.and_eq_true,decide_eq_true_eq]at *); (try dsimp only at *); omega)
def fe(r:Int):Bool:=decide (r<97\/122<r)
theorem pI(r:Int)(w:World) : Calls Tryz.prog 84 #[.int .i32 r] w λe w'=>e=.returned (.bool (fe r))/\w'=w:=by
 by_cases h:r<97
 .have hb:=Hs (fe r=true) (by simp[fe,h]);go_enter Tryz.func84,Tryz.ntmps84
  go_wp2;go_ret;exact⟨aA hb.out.symm,rfl⟩
 .have hb:=Hs (fe r=decide (122<r)) (by simp[fe,h]);go_enter Tryz.func84,Tryz.ntmps84
  go_wp2;go_ret;exact⟨aA hb.out.symm,rfl⟩
def xR(s:ByteArray)(w:World)(e:Ending)(w':World):Prop:=∃i:Int,e=.returned (.int .i64 i)/\(decide (0<=i)=!ew s)/\Below w.heap.size w w'
theorem qb(s:ByteArray)(w:World) : Calls Tryz.prog 161 #[.string s,.func (.func 84) #[] #[],.bool true] w (xR s w):=by
 go_enter Tryz.func161,Tryz.ntmps161
 go_wp2
 go_loopg [] s.size (λgf wx=>∃pos:Nat,wx.heap[w.heap.size]?=some (.stringIter s pos)/\Below w.heap.size w wx/\(∀j (hj:j<s.size),j<pos->97<=s[j].toNat/\s[j].toNat<=122)/\s.size=pos+gf)
 case atStart=>exact⟨0,World.iter_heap w s 0,(Below.refl _ w).alloc (Nat.le_refl _) _,λj hj h=>by omega,by omega⟩
 case round =>
  obtain⟨pos,hit,Ir,hleft,hfu⟩:=hrel;have HL:=Hx hleft;clear hleft;by_cases hps:pos<s.size
  .obtain⟨g',rfl⟩:∃g',gk=g'+1:=⟨gk - 1,by omega⟩
   have hnx:∀ty,(Instr.next (.pointer (some ⟨w.heap.size,0,none⟩)) true ty).run Tryz.prog wr=_:=λty=>Lib.run_next_any_at wr w.heap.size s pos ty hit hps;have hasc:s[pos].toNat<128->Utf8.decode s pos=(s[pos].toNat,1):=decode_ascii s pos hps;have Lo:¬ s[pos].toNat<128->128<=(Utf8.decode s pos).1:=decode_high hps;obtain⟨R,hR⟩:=Nm ((Utf8.decode s pos).1);obtain⟨K,hK⟩:=Nm ((Utf8.decode s pos).2);rw[hR,hK]at hnx;rw[hR]at Lo;have NZ:=Lib.iterAt_heap wr w.heap.size s pos (pos+K) hit;have Oa:=Lib.below_iterAt Ir (k:=w.heap.size) (Nat.le_refl _) s (pos+K);obtain⟨W,hWd⟩:=Nm (wr.iterAt w.heap.size s (pos+K));rw[hWd]at hnx NZ Oa;by_cases hb:97<=s[pos].toNat/\s[pos].toNat<=122
   .have hd:=hasc (by omega);rw[hd]at hR hK;dsimp only at hR hK;subst hR hK;have HB:=Hs (fe (s[pos].toNat:Int)=false) (by simp[fe]; omega)
    have HN:=Hs (∀j (hj:j<s.size),j<pos+1->97<=s[j].toNat/\s[j].toNat<=122) (λj hj h=>by
     rcases (by omega:j<pos\/j=pos) with h | rfl
     .exact HL.out j hj h
     .exact hb)
    have HI:=Hx NZ;have HW:=Hx Oa;clear hd hasc Lo hit Ir NZ Oa hWd;go_wp2_with fail;refine(pI _ _).mono ?_;rintro e W' ⟨rfl,rfl⟩;rw[HB.out];go_wp2_with fail
    go_roundg g'
    case measure=>omega
    case rel=>exact⟨pos+1,HI.out,HW.out,HN.out,by omega⟩
   .have HB:=Hs (fe (R:Int)=true) (by
     by_cases ha:s[pos].toNat<128
     .have hd:=hasc ha;rw[hd]at hR;dsimp only at hR;subst hR;simp[fe]; omega
     .have:=Lo ha
      simp[fe]; omega)
    have HF:=Hx (tN hps hb);have HI:=Hx NZ;have HW:=Hx Oa;clear hasc Lo hit Ir NZ Oa hWd hR hK hb;go_wp2_with fail;refine(pI _ _).mono ?_;rintro e W' ⟨rfl,rfl⟩;rw[HB.out];go_wp2;go_ret;exact⟨_,rfl,by rw[HF.out]; simp,HW.out⟩
  .have hnx:∀ty,(Instr.next (.pointer (some ⟨w.heap.size,0,none⟩)) true ty).run Tryz.prog wr=_:=λty=>Lib.run_next_end_at wr w.heap.size s pos ty hit hps;have HF:=Hs (ew s=true) (qA (λj hj=>HL.out j hj (by omega)));have HW:=Hx Ir;clear Ir;go_wp2;go_ret;exact⟨_,rfl,by rw[HF.out]; simp,HW.out⟩
theorem iu(s:ByteArray)(w:World) : Calls Tryz.prog 83 #[.string s,.func (.func 84) #[] #[]] w λe w'=>e=.returned (.bool (!ew s))/\Below w.heap.size w w':=by
 have idx:Calls Tryz.prog 124 #[.string s,.func (.func 84) #[] #[]] w (xR s w):=by
  go_enter Tryz.func124,Tryz.ntmps124
  go_wp2_with fail;refine(qb s _).mono ?_;rintro e w1 ⟨i,rfl,h1,h2⟩;have H1:=Hx h1;clear h1;go_wp2;go_ret;exact⟨_,rfl,H1.out,h2⟩
 have IDX:=Hx idx;clear idx;go_enter Tryz.func83,Tryz.ntmps83
 go_wp2_with fail;refine IDX.out.mono ?_;rintro e w1 ⟨i,rfl,h1,h2⟩;have H1:=Hx h1;clear h1;go_wp2;go_ret;exact⟨aA H1.out,h2⟩
theorem qz(s:ByteArray)(w:World)(hs:s.size<=9223372036854775807) : Calls Tryz.prog 99 #[.string s] w λe w'=>e=.returned (.bool (ew s))/\w'=w:=by
 go_enter Tryz.func99,Tryz.ntmps99
 go_wp2;go_loop [3] (λi=>∃k:Nat,k<=s.size/\i=.int .i64 k/\∀j (hj:j<s.size),j<k->97<=s[j].toNat/\s[j].toNat<=122) (λi=>s.size - (intOf i).toNat)
 case atStart=>exact⟨0,by omega,rfl,λj hj h=>by omega⟩
 case round =>
  obtain⟨k,hk,rfl,hK⟩:=hrel;have HK:=Hx hK;clear hK;by_cases lB:k<s.size
  .by_cases hb:97<=s[k].toNat/\s[k].toNat<=122
   .have HN:=Hs (∀j (hj:j<s.size),j<k+1->97<=s[j].toNat/\s[j].toNat<=122) (λj hj h=>by
     rcases (by omega:j<k\/j=k) with h | rfl
     .exact HK.out j hj h
     .exact hb)
    have b1:¬ ((s[k].toNat:Int)<97):=by omega
    have b2:¬ (122<(s[k].toNat:Int)):=by omega
    clear hb;go_wp2;go_round
    case rel=>exact⟨k+1,by omega,by go_num,HN.out⟩
    case measure=>simp[intOf]; omega
   .have HF:=Hx (tN lB hb);by_cases b1:(s[k].toNat:Int)<97
    .clear hb;go_wp2;go_ret;exact⟨aA HF.out.symm,rfl⟩
    .have b2:122<(s[k].toNat:Int):=by omega
     clear hb;go_wp2;go_ret;exact⟨aA HF.out.symm,rfl⟩
  .have HF:=Hs (ew s=true) (qA (λj hj=>HK.out j hj (by omega)));go_wp2;go_ret;exact⟨aA HF.out.symm,rfl⟩
def AQ(op:Nat):List UInt8 :=
 match op with
 | 1=>[107,110,115]
 | 2=>[107,110,115]
 | 3=>[107,116]
 | 4=>[107,116]
 | 5=>[107]
 | 6=>[107,110,116]
 | 7=>[97]
 | 8=>[97,100]
 | 9=>[97,100,119]
 | _=>[]
theorem yB(n:Nat)(h:1<=n/\n<=9)(w:World) : Calls Tryz.prog 122 #[.int .i64 n] w λe w'=>e=.returned (.string ⟨(AQ n).toArray⟩)/\Below w.heap.size w w':=by
 rcases (by omega:n=1\/n=2\/n=3\/n=4\/n=5\/n=6\/n=7\/n=8\/n=9) with rfl | rfl | rfl | rfl | rfl | rfl | rfl | rfl | rfl
 all_goals
  go_enter Tryz.func122,Tryz.ntmps122
  go_wp2;go_ret;exact⟨rfl,ay w _⟩
def hasB (n:Nat)(p:UInt8):Bool:=decide (0<=Lib.indexByte (AQ n) p)
theorem En(n:Nat)(h:1<=n/\n<=9)(c:Int)(p:UInt8)(hc:c.toNat.toUInt8=p)(w:World) : Calls Tryz.prog 81 #[.int .i64 n,.int .u8 c] w λe w'=>e=.returned (.bool (hasB n p))/\Below w.heap.size w w':=by
 have HC:=Hx hc;clear hc;go_enter Tryz.func81,Tryz.ntmps81
 go_wp2_with fail;refine(yB n h _).mono ?_;rintro e w1 ⟨rfl,b1⟩;go_wp2_with fail;refine(qc _ c _).mono ?_;rintro e w2 ⟨rfl,rfl⟩;rw[HC.out];go_wp2;go_ret;exact⟨aA rfl,b1⟩
