import Derived.Test.YtjalgpcigojpkaaGreatDoorQS
import Derived.Lib.AppendIntMem
import Derived.Test.YtjalgpcigojpkaaGreatDoorQ16
set_option maxRecDepth 99999
set_option maxHeartbeats 99999999
namespace Go.Proofs.YtjalgpcigojpkaaGreatDoor
section
open Go.RowKit Go.Lib
structure Tabs (w:World):Prop where
 pow : Lib.TabIs Tryz.prog w "internal/strconv.uint64pow10" .u64 Lib.pow10Tab
 mx : ∃ m, w.var? Tryz.prog "internal/bytealg.MaxLen" = some #[.int .i64 m]
 syn : ∃ tp p, w.var? Tryz.prog "strconv.ErrSyntax" = some #[.iface tp p]
 ran : ∃ tp p, w.var? Tryz.prog "strconv.ErrRange" = some #[.iface tp p]
 low:8<=w.heap.size
theorem E4 : Tryz.prog.globalNamed "internal/strconv.uint64pow10" = some 5 := by kernel_rfl
theorem FN : Tryz.prog.globalNamed "internal/bytealg.MaxLen" = some 0 := by kernel_rfl
theorem EY : Tryz.prog.globalNamed "strconv.ErrSyntax" = some 1 := by kernel_rfl
theorem EZ : Tryz.prog.globalNamed "strconv.ErrRange" = some 2 := by kernel_rfl
theorem Tabs.below{w w':World}{n:Nat}(t:Tabs w)(h:Below n w w')(hn:8<=n)(hs:w.heap.size<=w'.heap.size):Tabs w':=by obtain⟨p,⟨m,hm⟩,⟨ts,ps,hs'⟩,⟨tr,pr,hr⟩,l⟩:=t;exact⟨var?_below h E4 (by omega) p,⟨m,var?_below h FN (by omega) hm⟩,⟨ts,ps,var?_below h EY (by omega) hs'⟩,⟨tr,pr,var?_below h EZ (by omega) hr⟩,by omega⟩
theorem Tabs.on{w w':World}(t:Tabs w)(h:Below w.heap.size w w'):Tabs w':=t.below h t.low h.size
theorem Tabs.up{w w':World}{n:Nat}(t:Tabs w)(h:Below n w w')(hn:8<=n):Tabs w':=t.below h hn h.size
theorem Tabs.cell{w:World}(t:Tabs w):∃m,w.cell? ⟨0,0,none⟩=some (.int .i64 m):=by obtain⟨m,hm⟩:=t.mx;exact⟨m,by simpa using World.var?_cell FN hm 0⟩
theorem sP(w:World)(k:Nat)(os:Array Obj):Below w.heap.size w (Go.Sort.grow (w.drewN k) os) :=
 Lib.below_grow _ w (Nat.le_refl _) k os
theorem dP(n:Int)(w:World)(t:Tabs w)(h0:-9223372036854775808<=n)(h1:n<=9223372036854775807) : Calls Tryz.prog 158 #[.int .i64 n] w λe w'=>e=.returned (.string (aQ (Lib.itoa n)))/\Below w.heap.size w w' :=
 (Tryz.strconv_Itoa n h0 h1 w t.pow).mono λ_ _ ⟨he,k,os,hw⟩=>⟨he,hw▸sP w k os⟩
theorem BG(bk o c:Nat)(xs:List Bs)(w:World)(LR:∀(j:Nat) x,xs[j]?=some x->w.cell? ⟨bk,o+j,none⟩=some (.string (aQ x)))(Ko:bk<w.heap.size)(IF:xs.length<=c)(hN:xs.length<=1000)(hlen:(Lib.join xs [32]).length<=140737488355328) : Calls Tryz.prog 183 #[.slice (some ⟨bk,o,none⟩) xs.length c,.string ⟨#[32]⟩] w λe w'=>e=.returned (.string (aQ (Lib.join xs [32])))/\Below w.heap.size w w':=by
 have em:(xs.map aQ).map (·.data.toList)=xs:=by simp[aQ,Function.comp_def]
 have:=Tryz.strings_Join bk o c (xs.map aQ) ⟨#[32]⟩ w (λj x hx=>by
  rw[List.getElem?_map]at hx;obtain⟨y,hy,rfl⟩:=Option.map_eq_some_iff.1 hx
  exact LR j y hy) Ko (by rw[List.length_map]; omega) (by rw[List.length_map]; exact IF) (by rw[em]; exact hlen)
 rw[List.length_map,em]at this;exact this
theorem li(s:ByteArray):Lib.splitB ⟨#[32]⟩ 0 (Lib.countB s ⟨#[32]⟩) s=(splitK [32] 0 (count s.data.toList [32]) s.data.toList).map aQ:=by
 have h:=Lib.splitB_data ⟨#[32]⟩ 0 (Lib.countB s ⟨#[32]⟩) s;have e:Lib.countB s ⟨#[32]⟩=count s.data.toList [32]:=rfl;rw[e]at h ⊢
 have h2:(splitK [32] 0 (count s.data.toList [32]) s.data.toList).map aQ=((Lib.splitB ⟨#[32]⟩ 0 (count s.data.toList [32]) s).map (·.data.toList)).map aQ:=by rw[h]
 rw[h2,List.map_map]
 have:(aQ ∘ λx:ByteArray=>x.data.toList)=id:=by funext x; simp[aQ]
 rw[this,List.map_id]
def kh(t:Bs):List Bs:=splitK [32] 0 (count t [32]) t
theorem nU(s:ByteArray):(kh s.data.toList).length=Lib.countB s ⟨#[32]⟩+1:=by have:=Lib.splitB_all ⟨#[32]⟩ (by decide) 0 _ s rfl;rw[li,List.length_map]at this;exact this
theorem yn(s:ByteArray)(w:World)(t:Tabs w)(hs:s.size<4294967281) : Calls Tryz.prog 167 #[.string s,.string ⟨#[32]⟩] w λe w'=>e=.returned (.slice (some ⟨w.heap.size,0,none⟩) (kh s.data.toList).length (kh s.data.toList).length)/\w'=w.alloc (.cells ((kh s.data.toList).map λx=>Value.string (aQ x)).toArray 9):=by
 obtain⟨m,hm⟩:=t.cell;have:=Tryz.strings_Split s ⟨#[32]⟩ m w hs hm (by decide);rw[li,List.map_map,<-nU]at this;exact this
theorem EE(s:ByteArray)(w:World)(t:Tabs w)(hs:s.size<4294967281) : Calls Tryz.prog 169 #[.string s,.string ⟨#[58]⟩] w λe w'=>e=.returned (.tuple #[.string (aQ (Lib.cut s.data.toList [58]).1),.string (aQ (Lib.cut s.data.toList [58]).2.1),.bool (Lib.cut s.data.toList [58]).2.2])/\Below w.heap.size w w':=by
 obtain⟨m,hm⟩:=t.cell
 exact(Tryz.strings_Cut s ⟨#[58]⟩ m w hs hm).mono λ_ _ ⟨he,n,hw⟩=>⟨he,hw▸Go.below_drewN (Below.refl _ _) n⟩
theorem uO(s:ByteArray)(w:World)(t:Tabs w)(hs:s.size<=281474976710656) :
  Calls Tryz.prog 141 #[.string s] w λe w'=>(∃v,atoiAll s.data.toList=.ok v/\e=.returned (.tuple #[.int .i64 v,.nilIface])/\Below w.heap.size w w') \/
   ((∀v,atoiAll s.data.toList≠.ok v)/\∃x T p,e=.returned (.tuple #[.int .i64 x,.iface T p])/\Below w.heap.size w w'):=by
 rcases h:atoiAll s.data.toList with v | _ | _
 .refine(Tryz.strconv_Atoi_ok s (by omega) v h w).mono λ_ _ ⟨he,hw⟩=>.inl ⟨v,rfl,he,?_⟩
  rcases hw with rfl | ⟨t,rfl⟩
  .exact Below.refl _ _
  .exact Lib.bytesWorld_below w _ _
 .obtain⟨tp,p,hv⟩:=t.syn;exact(Tryz.strconv_Atoi_syntax_var s hs h tp p w hv).mono λ_ _ ⟨N,he,_,_,hb⟩=>.inr ⟨(λ_ e=>by cases e),_,_,_,he,hb⟩
 .obtain⟨tp,p,hv⟩:=t.ran;exact(Tryz.strconv_Atoi_range_var s hs h tp p w hv).mono λ_ _ ⟨N,he,_,_,hb⟩=>.inr ⟨(λ_ e=>by cases e),_,_,_,he,hb⟩
theorem D8{l:Bs}{v:Int}(h:atoiAll l=.ok v):aE l=v:=by unfold aE; rw[h]
theorem Ba{l:Bs}(h:∀v,atoiAll l≠.ok v):aE l=-1:=by
 unfold aE
 split
 .rename_i v e; exact absurd e (h v)
 .rfl
theorem vO(s:ByteArray)(w:World)(t:Tabs w)(hs:s.size<=281474976710656) : Calls Tryz.prog 168 #[.string s] w λe w'=>e=.returned (.int .i64 (aE s.data.toList))/\Below w.heap.size w w':=by
 go_enter Tryz.func168,Tryz.ntmps168
 go_wp2_with fail;refine(uO s _ t hs).mono ?_;rintro e w1 (⟨v,hv,rfl,hb⟩ | ⟨hv,x,T,p,rfl,hb⟩)
 .go_wp2;go_ret;exact⟨e9 (D8 hv).symm,hb⟩
 .go_wp2;go_ret;exact⟨e9 (Ba hv).symm,hb⟩
end
section
open Go.RowKit Go.Lib Go.Sort
theorem Ff{w W':World}{s:St}{a:Option Addr}{cap n:Nat}(h:Below n (w.alloc (.cells #[.int .i64 s.gen,.slice a s.regs.length cap,.int .i64 s.typ,.int .i64 s.holder,.bool s.stays] 34)) W')(hn:w.heap.size<n) : W'.cell? ⟨w.heap.size,0,none⟩=some (.int .i64 s.gen)/\W'.cell? ⟨w.heap.size,1,none⟩=some (.slice a s.regs.length cap)/\W'.cell? ⟨w.heap.size,2,none⟩=some (.int .i64 s.typ)/\W'.cell? ⟨w.heap.size,3,none⟩=some (.int .i64 s.holder)/\W'.cell? ⟨w.heap.size,4,none⟩=some (.bool s.stays) :=
 (bP h hn (heap_alloc_new w _)).1
def tP:ByteArray:=⟨#[103,111,101,115]⟩
def oC:ByteArray:=⟨#[115,116,97,121,115]⟩
theorem BL:(Tryz.prog.info? 9).map (λi=>(i.zero,i.size,i.bytes))=some (some (.string ⟨#[]⟩),1,16):=by kernel_rfl
theorem Fo(x:Int × Int):aQ (nz x)=aQ (itoa x.1) ++ ⟨#[58]⟩ ++ aQ (itoa x.2):=by rw[show(⟨#[58]⟩:ByteArray)=aQ [58] from rfl,ez,ez];simp[nz]
theorem eo(s:St):(bs s).length=4+s.regs.length:=by simp[bs]; omega
theorem uZ(s:St)(k:Nat)(h:k<s.regs.length):(bs s).take (4+k+1)=(bs s).take (4+k) ++ [nz s.regs[k]]:=by rw[List.take_succ_eq_append_getElem (by rw[eo]; omega)];congr 1;simp[bs,Nat.add_comm 4 k]
theorem s9{s:St}(hf:Fits s):∀x∈bs s,x.length<=41:=by
 intro x hx;unfold bs at hx;simp only[List.mem_cons,List.mem_map]at hx
 rcases hx with rfl | rfl | rfl | rfl | ⟨r,hr,rfl⟩
 .have:=bM s.gen hf.gen.1 hf.gen.2; omega
 .have:=bM s.typ hf.typ.1 hf.typ.2; omega
 .have:=bM s.holder hf.holder.1 hf.holder.2; omega
 .cases s.stays<;>decide
 .have h:=hf.regs r hr;have:=bM r.1 h.1.1 h.1.2;have:=bM r.2 h.2.1 h.2.2;unfold nz;simp only[List.length_append,List.length_cons];omega
theorem vL{w:World}{B:Nat}{e:TypeId}{s g n c:Nat}{xs:List Value}(h:w.ownsRow B e s (.slice (some ⟨g,0,none⟩) n c) n xs):n<=c:=by
 rcases h.2 with⟨h1,_⟩ | ⟨g',c',cur,h1,_,_,h2,_⟩
 .cases h1
 .injection h1 with _ _ h3; omega
abbrev f9(s:St)(a:Option Addr)(cap n:Nat)(x10 x14 x18 x19 x20 x23:Value):Act:=⟨#[dh s a cap,.pointer (some ⟨n,0,none⟩),.string ⟨#[]⟩,.func (.func 158) #[] #[],undef,undef,undef,.func (.func 158) #[] #[],.pointer (some ⟨n,0,none⟩),.int .i64 s.gen,x10,.func (.func 158) #[] #[],.pointer (some ⟨n,2,none⟩),.int .i64 s.typ,x14,.func (.func 158) #[] #[],.pointer (some ⟨n,3,none⟩),.int .i64 s.holder,x18,x19,x20,.pointer (some ⟨n,4,none⟩),.bool s.stays,x23,undef,undef,undef,undef,undef,undef,undef,undef,undef,undef,undef,undef,undef,undef,undef,undef,undef,undef,undef,undef,undef,undef,undef,undef],[]⟩
def rm (k i:Nat)(v:Value):Value:=bif Nat.ble k i then v else undef
def Ea:Option Nat->Value
 | none=>undef
 | some b=>.map (some b)
def xd(s:St)(a:Option Addr)(cap n:Nat)(i:Nat)(blk:Option Nat)(x20 x23:Value):Act :=
 f9 s a cap n (rm 1 i (.string (aQ (itoa s.gen)))) (rm 2 i (.string (aQ (itoa s.typ)))) (rm 3 i (.string (aQ (itoa s.holder)))) (Ea blk) x20 x23
def textF(s:St)(a:Option Addr)(cap n:Nat)(i:Nat)(blk:Option Nat):Act:=xd s a cap n i blk undef undef
def cZ(i j:Nat):Array Bool:=#[true,true,true,Nat.ble 1 i,true,true,true,Nat.ble 2 i,true,true,true,Nat.ble 3 i,Nat.ble 1 j,j == 2 || j == 4,j == 3 || j == 4,false,true,true,false,false,false]
def oc(i:Nat):Array Bool:=#[true,true,true,Nat.ble 1 i,true,true,true,Nat.ble 2 i,true,true,true,Nat.ble 3 i,true,true,true,true,true,true,true,false,false]
theorem vo:∀i,i<3->(oc i).setIfInBounds (3+4*i) true=oc (i+1):=by
 have:∀i:Fin 3,(oc i.val).setIfInBounds (3+4*i.val) true=oc (i.val+1):=by decide
 exact λi hi=>this ⟨i,hi⟩
theorem yh:∀i,i<=3->((cZ i 4).setIfInBounds 15 true).setIfInBounds 18 true=oc i:=by
 have:∀i:Fin 4,((cZ i.val 4).setIfInBounds 15 true).setIfInBounds 18 true=oc i.val:=by decide
 exact λi hi=>this ⟨i,by omega⟩
theorem ix:Tryz.prog.underlying 256=some (.map 4 9)/\Tryz.prog.underlying 4=some .bool:=by constructor<;>kernel_rfl
theorem yO(es:Array MapEntry)(h:es=#[⟨.bool false,.string tP,0⟩,⟨.bool true,.string oC,1⟩]\/es=#[⟨.bool true,.string oC,0⟩,⟨.bool false,.string tP,1⟩])(b:Bool) : ∃j,Instr.findNow .bool (.bool b) es.toList 0=some (some (j,.string (aQ (eS b)))):=by
 rcases h with rfl | rfl<;>cases b
 .exact⟨0,rfl⟩
 .exact⟨1,rfl⟩
 .exact⟨1,rfl⟩
 .exact⟨0,rfl⟩
theorem nK{es:Array MapEntry}{b c:Bool}{v:Value}(hbc:c≠b)(h:es=#[]\/es=#[⟨.bool b,v,0⟩]):(∀x∈es.toList,MapKept.IsKey .bool x.key)/\∀x∈es.toList,x.key≠.bool c:=by
 rcases h with rfl | rfl
 .exact⟨λx hx=>by simp at hx,λx hx=>by simp at hx⟩
 .refine⟨λx hx=>?_,λx hx=>?_⟩
  .simp at hx; subst hx; simp[MapKept.IsKey]
  .simp at hx; subst hx; intro e; injection e with e; exact hbc e.symm
def xe(i:Nat):Nat:=3+4*i
theorem vp:∀i j,i<3->j<4->(cZ i j).setIfInBounds (xe i) true=cZ (i+1) j:=by
 have:∀i:Fin 3,∀j:Fin 4,(cZ i.val j.val).setIfInBounds (xe i.val) true=cZ (i.val+1) j.val:=by decide
 exact λi j hi hj=>this ⟨i,hi⟩ ⟨j,hj⟩
theorem ic:∀i,i<=3->(cZ i 0).setIfInBounds 12 true=cZ i 1/\(cZ i 1).setIfInBounds 13 true=cZ i 2/\(cZ i 1).setIfInBounds 14 true=cZ i 3/\(cZ i 2).setIfInBounds 14 true=cZ i 4/\(cZ i 3).setIfInBounds 13 true=cZ i 4:=by
 have:∀i:Fin 4,(cZ i.val 0).setIfInBounds 12 true=cZ i.val 1/\(cZ i.val 1).setIfInBounds 13 true=cZ i.val 2/\(cZ i.val 1).setIfInBounds 14 true=cZ i.val 3/\(cZ i.val 2).setIfInBounds 14 true=cZ i.val 4/\(cZ i.val 3).setIfInBounds 13 true=cZ i.val 4:=by decide
 exact λi hi=>this ⟨i,by omega⟩
theorem tG(s:St)(a:Option Addr)(cap:Nat)(w:World)(t:Tabs w)(hr:bj w s a)(hf:Fits s)(hl:s.regs.length<=40) : Calls Tryz.prog 157 #[dh s a cap] w λe w'=>e=.returned (.string (aQ (aP s)))/\Below w.heap.size w w':=by
 have HR:=Hx hr;have HF:=Hx hf;have TT:=Hx t;clear hr hf t;go_enter Tryz.func157,Tryz.ntmps157
 go_upto_region 2 with fail;obtain⟨w1,pX⟩:=Nn (w.alloc (.cells #[.int .i64 s.gen,.slice a s.regs.length cap,.int .i64 s.typ,.int .i64 s.holder,.bool s.stays] 34));have B1:=Hs (Below w.heap.size w w1) (pX▸ay w _);have L1:=Hs (w1.heap.size=w.heap.size+1) (by rw[pX]; simp)
 obtain⟨S,hS⟩:∃S:World->Prop,S=λw'=>Below (w.heap.size+1) w1 w':=⟨_,rfl⟩
 replace hS:=Hx hS
 have SC:=Hs (∀w',S w'->w'.cell? ⟨w.heap.size,0,none⟩=some (.int .i64 s.gen)/\w'.cell? ⟨w.heap.size,1,none⟩=some (.slice a s.regs.length cap)/\w'.cell? ⟨w.heap.size,2,none⟩=some (.int .i64 s.typ)/\w'.cell? ⟨w.heap.size,3,none⟩=some (.int .i64 s.holder)/\w'.cell? ⟨w.heap.size,4,none⟩=some (.bool s.stays)) (λw' h=>by
  rw[hS.out]at h
  exact Ff (pX▸h) (Nat.lt_succ_self _))
 rw[<-pX];clear pX;refine wp_region_held_drew (S:=S) (by kernel_rfl) (by rw[hS.out]; exact(Below.refl _ _).drew) (λdT=>?_);refine wt 0 _ dT ?_;go_simp;refine wt 1 _ dT ?_;go_simp;refine wt 2 (.int .i64 s.gen) dT ?_ (hy:=Or.inl ⟨by rfl,λw' sT=>by have hc:=(SC.out w' sT).1; go_simp⟩);go_simp;refine wt 4 _ dT ?_;go_simp;refine wt 5 _ dT ?_;go_simp;refine wt 6 (.int .i64 s.typ) dT ?_ (hy:=Or.inl ⟨by rfl,λw' sT=>by have hc:=(SC.out w' sT).2.2.1; go_simp⟩);go_simp;refine wt 8 _ dT ?_;go_simp;refine wt 9 _ dT ?_;go_simp;refine wt 10 (.int .i64 s.holder) dT ?_ (hy:=Or.inl ⟨by rfl,λw' sT=>by have hc:=(SC.out w' sT).2.2.2.1; go_simp⟩);go_simp;refine wt 16 _ dT ?_;go_simp;refine wt 17 (.bool s.stays) dT ?_ (hy:=Or.inl ⟨by rfl,λw' sT=>by have hc:=(SC.out w' sT).2.2.2.2; go_simp⟩);go_simp;refine grid (S:=S) (w.heap.size+1) xe 12 13 14 (textF s a cap w.heap.size) cZ (.bool false) (.string tP) (.bool true) (.string oC) vp (λi hi=>(ic i hi).1) (λi hi=>(ic i hi).2.1) (λi hi=>(ic i hi).2.2.1) (λi hi=>(ic i hi).2.2.2.1) (λi hi=>(ic i hi).2.2.2.2) (by kernel_rfl) ?hcall ?hmake ?ha ?hb ?hSm ?hSs ?hSB 4 ?hfin w1.drew dT
 case hSm=>intro w' h; rw[hS.out]at h ⊢; exact h.alloc (by have:=h.size; have:=L1.out; omega) _
 case hSs=>intro w' blk o h hb; rw[hS.out]at h ⊢; exact Below.setO h hb o
 case hSB=>intro w' h; rw[hS.out]at h; have:=h.size; have:=L1.out; omega
 case hcall =>
  intro i blk w2 K hi sT hK
  have T2:Tabs w2:=by rw[hS.out]at sT; exact(TT.out.on B1.out).up sT (by have:=TT.out.low; omega)
  have HS:∀w',Below w2.heap.size w2 w'->S w':=λw' h=>by rw[hS.out]at sT ⊢; exact sT.trans (h.mono (by have:=sT.size; have:=L1.out; omega))
  rcases (by omega:i=0\/i=1\/i=2) with rfl | rfl | rfl
  .show wpOp _ _ _ 3 K (f9 s a cap w.heap.size undef undef undef (Ea blk) undef undef) w2;refine wpOp_step (i:=3) (o:=_) rfl (λK' Is=>?_);go_simp;refine(dP _ _ T2 HF.out.gen.1 HF.out.gen.2).mono ?_;rintro e w3 ⟨rfl,b3⟩;exact Is _ _ (hK w3 (HS w3 b3) b3)
  .show wpOp _ _ _ 7 K (f9 s a cap w.heap.size (.string (aQ (itoa s.gen))) undef undef (Ea blk) undef undef) w2;refine wpOp_step (i:=7) (o:=_) rfl (λK' Is=>?_);go_simp;refine(dP _ _ T2 HF.out.typ.1 HF.out.typ.2).mono ?_;rintro e w3 ⟨rfl,b3⟩;exact Is _ _ (hK w3 (HS w3 b3) b3)
  .show wpOp _ _ _ 11 K (f9 s a cap w.heap.size (.string (aQ (itoa s.gen))) (.string (aQ (itoa s.typ))) undef (Ea blk) undef undef) w2;refine wpOp_step (i:=11) (o:=_) rfl (λK' Is=>?_);go_simp;refine(dP _ _ T2 HF.out.holder.1 HF.out.holder.2).mono ?_;rintro e w3 ⟨rfl,b3⟩;exact Is _ _ (hK w3 (HS w3 b3) b3)
 case hmake =>
  intro i w2 K hi sT hK;show wpOp _ _ _ 12 K (f9 s a cap w.heap.size (rm 1 i _) (rm 2 i _) (rm 3 i _) undef undef undef) w2;refine wpOp_step (i:=12) (o:=_) rfl (λK' Is=>?_);go_simp;exact Is _ _ hK
 case ha =>
  intro i blk w2 K es cl hi sT hh N7 hK;have hI:=jg (P:=Tryz.prog) (value:=.string tP) ix.1 ix.2 hh (key:=.bool false) (by simp[MapKept.IsKey]) (nK (b:=true) (c:=false) (by decide) N7).1 (nK (b:=true) (c:=false) (by decide) N7).2;show wpOp _ _ _ 13 K (f9 s a cap w.heap.size (rm 1 i _) (rm 2 i _) (rm 3 i _) (.map (some blk)) undef undef) w2;refine wpOp_step (i:=13) (o:=_) rfl (λK' Is=>?_);unfold tP at hI;go_simp;exact Is _ _ hK
 case hb =>
  intro i blk w2 K es cl hi sT hh N7 hK;have hI:=jg (P:=Tryz.prog) (value:=.string oC) ix.1 ix.2 hh (key:=.bool true) (by simp[MapKept.IsKey]) (nK (b:=false) (c:=true) (by decide) N7).1 (nK (b:=false) (c:=true) (by decide) N7).2;show wpOp _ _ _ 14 K (f9 s a cap w.heap.size (rm 1 i _) (rm 2 i _) (rm 3 i _) (.map (some blk)) undef undef) w2;refine wpOp_step (i:=14) (o:=_) rfl (λK' Is=>?_);unfold oC at hI;go_simp;exact Is _ _ hK
 case hfin =>
  intro i blk w2 es hi sT hB hh N7;obtain⟨jj,hj⟩:=yO es N7 s.stays
  obtain⟨S2,JM⟩:∃S2:World->Prop,S2=λw'=>S w'/\w'.heap[blk]?=some (.map es 2):=⟨_,rfl⟩
  have SL:∀w',S2 w'->(Instr.lookup 256 (.map (some blk)) (.bool s.stays) false).run Tryz.prog w'=.ok (.string (aQ (eS s.stays))) w':=λw' h=>by rw[JM]at h;exact AC (P:=Tryz.prog) ix.1 ix.2 h.2 (by simp[MapKept.IsKey]) hj false
  have HS:∀w2 w',S2 w2->Below w2.heap.size w2 w'->S2 w':=λw2 w' sT h=>by rw[JM]at sT ⊢;refine⟨?_,(h.block _ (Gl sT.2)).trans sT.2⟩;have h1:=sT.1;rw[hS.out]at h1 ⊢;exact h1.trans (h.mono (by have:=h1.size; have:=L1.out; omega))
  have hSw2:S2 w2:=by rw[JM]; exact⟨sT,hh⟩
  have ST:∀w',S2 w'->Tabs w'/\S w':=λw' h=>by rw[JM]at h;refine⟨?_,h.1⟩;have h1:=h.1;rw[hS.out]at h1;exact(TT.out.on B1.out).up h1 (by have:=TT.out.low; omega)
  refine jW (S':=S2) (λw' h=>(ST w' h).2) _ _ _ _ ?_;rw[show 4+(3 - i)=2+(3 - i)+1+1 by omega];refine tail3 (S:=S2) (v1:=.map (some blk)) (v2:=.string (aQ (eS s.stays))) 15 18 xe (λi=>textF s a cap w.heap.size i (some blk)) (λi=>xd s a cap w.heap.size i (some blk) (.map (some blk)) undef) (λi=>xd s a cap w.heap.size i (some blk) (.map (some blk)) (.string (aQ (eS s.stays)))) (λi=>cZ i 4) oc 2 rfl rfl (by kernel_rfl) (by kernel_rfl) yh vo (λi _=>⟨rfl,rfl⟩) (λ_ _ _ h=>h) (λ_ _ _ h=>h) (λi _=>Or.inl ⟨rfl,λw' sT=>rfl⟩) (λi _=>Or.inl ⟨rfl,λw' sT=>?hlk⟩) ?hcall2 ?h3 i hi w2 hSw2
  case hlk =>
   have hl:=SL w' sT;unfold xd;go_simp
  case hcall2 =>
   intro i w2 K hi sT hK;have T2:Tabs w2:=(ST _ sT).1
   rcases (by omega:i=0\/i=1\/i=2) with rfl | rfl | rfl
   .show wpOp _ _ _ 3 K (f9 s a cap w.heap.size undef undef undef (.map (some blk)) (.map (some blk)) (.string (aQ (eS s.stays)))) w2;refine wpOp_step (i:=3) (o:=_) rfl (λK' Is=>?_);go_simp;refine(dP _ _ T2 HF.out.gen.1 HF.out.gen.2).mono ?_;rintro e w3 ⟨rfl,b3⟩;exact Is _ _ (hK w3 (HS _ w3 sT b3))
   .show wpOp _ _ _ 7 K (f9 s a cap w.heap.size (.string (aQ (itoa s.gen))) undef undef (.map (some blk)) (.map (some blk)) (.string (aQ (eS s.stays)))) w2;refine wpOp_step (i:=7) (o:=_) rfl (λK' Is=>?_);go_simp;refine(dP _ _ T2 HF.out.typ.1 HF.out.typ.2).mono ?_;rintro e w3 ⟨rfl,b3⟩;exact Is _ _ (hK w3 (HS _ w3 sT b3))
   .show wpOp _ _ _ 11 K (f9 s a cap w.heap.size (.string (aQ (itoa s.gen))) (.string (aQ (itoa s.typ))) undef (.map (some blk)) (.map (some blk)) (.string (aQ (eS s.stays)))) w2;refine wpOp_step (i:=11) (o:=_) rfl (λK' Is=>?_);go_simp;refine(dP _ _ T2 HF.out.holder.1 HF.out.holder.2).mono ?_;rintro e w3 ⟨rfl,b3⟩;exact Is _ _ (hK w3 (HS _ w3 sT b3))
  case h3 =>
   clear hSw2 sT hh w2;intro w2 hS2w;show wpAnyH _ _ _ _ S2 2 _ (f9 s a cap w.heap.size (.string (aQ (itoa s.gen))) (.string (aQ (itoa s.typ))) (.string (aQ (itoa s.holder))) (.map (some blk)) (.map (some blk)) (.string (aQ (eS s.stays)))) w2;refine wpAnyH_ready (rs:=[19]) (by kernel_rfl) (by simp) ?_;refine AllReadyH.cons (o:=_) rfl (λK hK=>?_) AllReadyH.nil;go_simp;refine hK.out _ _ (HS _ _ hS2w (ay _ _)) (λhH=>?_);clear hK K;refine wpAnyH_ready (rs:=[20]) (by kernel_rfl) (by simp) ?_;refine AllReadyH.cons (o:=_) rfl (λK hK=>?_) AllReadyH.nil;go_simp;refine hK.out _ _ hH (λhH2=>?_);clear hK K;refine wpAnyH_done (by kernel_rfl) ?_ _;obtain⟨w4,Iq⟩:=Nn (w2.alloc (.cells #[.string (aQ (itoa s.gen)),.string (aQ (itoa s.typ)),.string (aQ (itoa s.holder)),.string (aQ (eS s.stays))] 9))
   have B2:Below (w.heap.size+1) w1 w2:=by have:=(ST _ hS2w).2; rw[hS.out]at this; exact this
   have B4:=Hs (Below (w.heap.size+1) w1 w4) (Iq▸B2.trans ((ay w2 _).mono (by have:=B2.size; have:=L1.out; omega)))
   have O4:=Hs (w4.ownsRow (w.heap.size+1) 9 1 (.slice (some ⟨w2.heap.size,0,none⟩) 4 4) (4+0) (((bs s).take (4+0)).map λx=>Value.string (aQ x))) (Iq ▸
    ⟨by simp[bs],.inr ⟨w2.heap.size,4,_,rfl,by have:=B2.size; have:=L1.out; omega,heap_alloc_new w2 _,Nat.le_refl _,by decide,by simp,by simp[bs]⟩⟩)
   have MI:w2.alloc (.cells #[.string (aQ (itoa s.gen)),.string (aQ (itoa s.typ)),.string (aQ (itoa s.holder)),.string (aQ (eS s.stays))] 9)=w4:=Iq.symm;rw[MI];obtain⟨c0,c1,c2,c3,c4⟩:=SC.out w4 (by rw[hS.out]; exact B4.out);clear MI Iq B2 hH hH2 hS2w ST HS SL JM hj N7 dT S2;clear SC hS S;go_wp2;have TB4:=Hx ((TT.out.on B1.out).up B4.out (by have:=TT.out.low; omega));obtain⟨n,hn⟩:=Nn s.regs.length;have HN:=Hx hn;rw[<-hn]at hl c1 ⊢;have ST4:=Hs (dh s a cap=.agg #[.int .i64 s.gen,.slice a s.regs.length cap,.int .i64 s.typ,.int .i64 s.holder,.bool s.stays]) rfl;clear hn;go_loopw [4,6,28] (λv u6 i wr=>∃k:Nat,k<=n/\i=.int .i64 k/\wr.ownsRow (w.heap.size+1) 9 1 v (4+k) (((bs s).take (4+k)).map λx=>Value.string (aQ x))/\Below (w.heap.size+1) w1 wr) (λ_ _ i _=>n - (RowKit.intOf i).toNat)
   case atStart=>exact⟨0,by omega,rfl,O4.out,B4.out⟩
   case round =>
    obtain⟨k,hk,rfl,ec,Ir⟩:=hrel;have HB:=Hx Ir;have OWN:=Hx ec;clear ec;by_cases lB:k<n
    .obtain⟨b,o,rfl,hbw0,e1,e2⟩:=HR.out.rep k (by have:=HN.out; omega);have LE:=L1.out;have Ii:Below w.heap.size w wr:=B1.out.trans (Ir.mono (by omega));have d1:=(Ii.cell (p:=⟨b,o+k*2,none⟩) hbw0).trans e1;have d2:=(Ii.cell (p:=⟨b,o+k*2+1,none⟩) hbw0).trans e2;obtain⟨x,hx⟩:=Nn (s.regs[k]'(by have:=HN.out; omega));rw[<-hx]at d1 d2;have HX:=Hx hx;have FX:=HF.out.regs x (hx▸List.getElem_mem _);clear e1 e2 hx Ir hbw0;go_wp2;obtain⟨w5,Jc⟩:=Nn (wr.alloc (.cells #[.int .i64 x.1,.int .i64 x.2] 144));obtain⟨rb,hrb⟩:=Nn wr.heap.size;have H5:=Hs (w5.heap[rb]?=some (.cells #[.int .i64 x.1,.int .i64 x.2] 144 (0,0))) (by rw[Jc,hrb]; exact heap_alloc_new wr _);have RB:=Hs (w.heap.size+1<=rb/\rb<w5.heap.size) (by rw[Jc,hrb]; have:=HB.out.size; simp; omega);have B5:=Hs (Below (w.heap.size+1) w1 w5) (by rw[Jc]; exact HB.out.trans ((ay wr _).mono (by have:=HB.out.size; omega)));have O5:=Hs (w5.ownsRow (w.heap.size+1) 9 1 u4 (4+k) (((bs s).take (4+k)).map λx=>Value.string (aQ x))) (by rw[Jc]; exact OWN.out.alloc _);have NB:=Hs (∀q,u4.ownBlock=some q->q<rb) (λq hq=>hrb▸(OWN.out.lt q hq).2);have T5:=Hx ((TT.out.on B1.out).up B5.out (by have:=TT.out.low; omega));rw[<-Jc,<-hrb];clear Jc hrb OWN HB d1 d2 Ii
     obtain⟨S,hS⟩:∃S:World->Prop,S=λw'=>Below (w.heap.size+1) w1 w'/\w'.cell? ⟨rb,0,none⟩=some (.int .i64 x.1)/\w'.cell? ⟨rb,1,none⟩=some (.int .i64 x.2):=⟨_,rfl⟩
     replace hS:=Hx hS
     have SB:=Hs (∀w',Below w5.heap.size w5 w'->S w') (λw' h=>by
      rw[hS.out];have e:=(h.block rb RB.out.2).trans H5.out
      exact⟨B5.out.trans (h.mono (by have:=RB.out; omega)),by simp[World.cell?,e],by simp[World.cell?,e]⟩)
     have SC:=Hs (∀w',S w'->w'.cell? ⟨rb,0,none⟩=some (.int .i64 x.1)/\w'.cell? ⟨rb,1,none⟩=some (.int .i64 x.2)) (λw' h=>by rw[hS.out]at h; exact h.2);have add1:=λw=>run_string_add_sum (P:=Tryz.prog) w (aQ (itoa x.1)) ⟨#[58]⟩ (by have:=bM x.1 FX.1.1 FX.1.2; rw[bp]; simp[ByteArray.size]; omega);have add2:=λw=>run_string_add_sum (P:=Tryz.prog) w (aQ (itoa x.1) ++ ⟨#[58]⟩) (aQ (itoa x.2)) (by have:=bM x.1 FX.1.1 FX.1.2; have:=bM x.2 FX.2.1 FX.2.2; rw[ByteArray.size_append,bp,bp]; simp[ByteArray.size]; omega);refine wp_region_held_drew (S:=S) (by kernel_rfl) (SB.out _ (Below.refl _ _).drew) (λdT=>?_);refine wt 0 _ dT ?_;go_simp;refine wt 1 _ dT ?_;go_simp;refine wt 2 _ dT ?_;go_simp;refine wt 3 (.int .i64 x.1) dT ?_ (hy:=Or.inl ⟨by rfl,λw' sT=>by have hc:=(SC.out w' sT).1; go_simp⟩);go_simp;refine wt 6 _ dT ?_;go_simp;refine wt 7 _ dT ?_;go_simp;refine wt 8 (.int .i64 x.2) dT ?_ (hy:=Or.inl ⟨by rfl,λw' sT=>by have hc:=(SC.out w' sT).2; go_simp⟩);go_simp;refine wpAnyH_ready (rs:=[4]) (by kernel_rfl) (by simp) ?_;refine AllReadyH.cons (o:=_) rfl (λK hK=>?_) AllReadyH.nil;go_simp;refine(dP _ _ (T5.out.on (Below.refl _ _).drew) FX.1.1 FX.1.2).mono ?_;rintro e w6 ⟨rfl,b6⟩;have B6:=Hx ((show Below w5.heap.size w5 w5.drew from(Below.refl _ _).drew).trans b6);refine hK.out _ _ (SB.out _ B6.out) (λhH6=>?_);clear hK K b6;refine wt 5 _ hH6 ?_;go_simp;refine wpAnyH_ready (rs:=[9]) (by kernel_rfl) (by simp) ?_;refine AllReadyH.cons (o:=_) rfl (λK hK=>?_) AllReadyH.nil;go_simp;refine(dP _ _ (T5.out.on B6.out) FX.2.1 FX.2.2).mono ?_;rintro e w7 ⟨rfl,b7⟩;have B7:=Hx (B6.out.trans (b7.mono B6.out.size));refine hK.out _ _ (SB.out _ B7.out) (λhH7=>?_);clear hK K b7;refine wt 10 _ hH7 ?_;go_simp;refine wpAnyH_ready (rs:=[11]) (by kernel_rfl) (by simp) ?_;refine AllReadyH.cons (o:=_) rfl (λK hK=>?_) AllReadyH.nil;go_simp;obtain⟨nw,hnw⟩:=Nn (aQ (itoa x.1) ++ ⟨#[58]⟩ ++ aQ (itoa x.2));rw[<-hnw];obtain⟨w8,IU⟩:=Nn (w7.alloc (.cells #[.string nw] 9));have B8:=Hs (Below w5.heap.size w5 w8) (IU▸B7.out.trans ((ay w7 _).mono B7.out.size));have N8:=Hs (w8.heap[w7.heap.size]?=some (.cells #[.string nw] 9 (0,0))) (IU▸heap_alloc_new w7 _)
     have O8:=Hs (w8.ownsRow (w.heap.size+1) 9 1 u4 (4+k) (((bs s).take (4+k)).map λx=>Value.string (aQ x))) (by
      refine⟨O5.out.1,?_⟩
      rcases O5.out.2 with h2 | ⟨g,cp,cur,rfl,e2,e3,e4⟩
      .exact .inl h2
      .exact .inr ⟨g,cp,cur,rfl,e2,(B8.out.block g (Gl e3)).trans e3,e4⟩)
     refine hK.out _ _ (SB.out _ (IU▸B8.out)) (λhH8=>?_);clear hK K;rw[<-IU]at hH8 ⊢;clear IU;obtain⟨i0,Ni,Ij,Ii,Im⟩:=info_parts BL;refine wpAnyH_ready (rs:=[12]) (by kernel_rfl) (by simp) ?_;refine AllReadyH.cons (o:=_) rfl (λK hK=>?_) AllReadyH.nil;refine step_append_lies _ (by rfl) _ _ _ (by rfl) (w.heap.size+1) 9 i0 _ 1 16 Tryz.underlying146 Ni Ij Ii Im rfl (by omega) u4 (4+k) (((bs s).take (4+k)).map λx=>Value.string (aQ x)) (by rfl) O8.out ⟨w7.heap.size,0,none⟩ 1 1 [.string nw] (by rfl) (by rfl) (World.news_of_block N8.out) (by simp[Value.oneCell']) (by omega) (by unfold maxLen; omega) (by omega) (by have:=B8.out.size; have:=RB.out; omega) _ rfl ?_;intro g9 cap9 w9 own9 grow9 at9 lt9;have LO:=Hs (∀q,u4.ownBlock=some q->w.heap.size+1<=q) (λq hq=>(O8.out.lt q hq).1);have B9:=Hs (Below (w.heap.size+1) w1 w9) ((B5.out.trans (B8.out.mono (by have:=RB.out; omega))).grown grow9 (by have:=B8.out.size; have:=RB.out; omega) LO.out);have E9:w9.heap[rb]?=some (.cells #[.int .i64 x.1,.int .i64 x.2] 144 (0,0)):=(grow9.block rb (by have:=B8.out.size; have:=RB.out; omega) (λe=>by have:=NB.out rb e.symm; omega)).trans ((B8.out.block rb RB.out.2).trans H5.out);refine hK.out _ _ (by rw[hS.out]; exact⟨B9.out,by simp[World.cell?,E9],by simp[World.cell?,E9]⟩) (λhH9=>?_);clear hK K
     have O9:=Hs (w9.ownsRow (w.heap.size+1) 9 1 (.slice (some ⟨g9,0,none⟩) (4+k+1) cap9) (4+(k+1)) (((bs s).take (4+(k+1))).map λx=>Value.string (aQ x))) (by
      rw[<-Nat.add_assoc,uZ s k (by have:=HN.out; omega),List.map_append,<-HX.out,List.map_singleton,Fo,<-hnw]
      exact own9)
     clear own9 grow9 at9 lt9 E9 add1 add2;refine wpAnyH_ready (rs:=[13]) (by kernel_rfl) (by simp) ?_;refine AllReadyH.cons (o:=_) rfl (λK hK=>?_) AllReadyH.nil;go_simp;refine hK.out _ _ hH9 (λhH10=>?_);clear hK K hH9 hH8 hH7 hH6 dT hH10 hS;refine wpAnyH_done (by kernel_rfl) ?_ _;go_wp2;go_roundw
     case rel=>exact⟨k+1,by omega,by go_num,O9.out,B9.out⟩
     case measure=>simp[RowKit.intOf]; omega
    .obtain rfl:k=n:=by omega
     clear Ir;obtain⟨g,cp,rfl,Il,Ja⟩:=OWN.out.form (by omega)
     have hj:=BG g 0 cp (bs s) wr (λj x hx=>by
      have J8:j<(bs s).length:=(List.getElem?_eq_some_iff.1 hx).1;rw[eo,<-HN.out]at J8;rw[Nat.zero_add,OWN.out.cellAt j (by omega),List.getElem?_map,List.take_of_length_le (by rw[eo]; have:=HN.out; omega),hx]
      rfl) Ja (by rw[eo,<-HN.out]; exact vL OWN.out) (by rw[eo,<-HN.out]; omega) (by
      have:=pj 32 (bs s) 41 (s9 HF.out);rw[eo,<-HN.out]at this;unfold Lib.join
      omega)
     rw[eo,<-HN.out]at hj;go_wp2_with fail;refine hj.mono ?_;rintro e w9 ⟨rfl,b9⟩;have BZ:=Hx (B1.out.trans ((HB.out.trans (b9.mono (by have:=HB.out.size; have:=L1.out; omega))).mono (by omega)));clear hj b9 Il Ja;go_wp2;go_ret;exact⟨rfl,BZ.out⟩
