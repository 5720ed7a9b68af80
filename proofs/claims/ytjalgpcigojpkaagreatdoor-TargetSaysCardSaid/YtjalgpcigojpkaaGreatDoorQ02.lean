import Derived.Test.YtjalgpcigojpkaaGreatDoorQ01
import Derived.Lib.AppendZerosOnto
import Derived.Lib.Overlaps
import Derived.StillTailTactics
import Derived.Deep.AppendLies
set_option maxRecDepth 99999
set_option maxHeartbeats 99999999
namespace Go.Proofs.YtjalgpcigojpkaaGreatDoor
section
open Go.RowKit
theorem fM(w:World)(ty:TypeId)(g o dLen dCap:Nat)(a:Addr)(sLen sCap:Nat)(cur:Array Value)(cs:List Value)
  (hg:w.heap[g]?=some (.cells cur 144 (0,0))) (hn:cs.length=Nat.min sLen dLen*2)
  (MN:∀j v,cs[j]?=some v->w.cell? (a.add j)=some v) (hfit:o+cs.length<=cur.size) (h1:∀v∈cs,v.oneCell'=true) :
  (Builtin.copy_ #[32,32] ty #[.slice (some ⟨g,o,none⟩) dLen dCap,.slice (some a) sLen sCap]).run Tryz.prog w =
   .ok (goInt (Nat.min sLen dLen)) (w.setRow g (cur.toList.take o ++ cs ++ cur.toList.drop (o+cs.length)).toArray):=by
 obtain⟨i0,hi,Ij,Ii,Im⟩:=info_parts Tryz.infoReg;have hl:=run_loadCells_list (P:=Tryz.prog) w a cs MN;have I7:=run_storeCells_at Tryz.prog g o 144 cs 0 cur w hg (by simpa using hfit) h1;simp[Builtin.copy_,run_underlying Tryz.underlying32,Builtin.lenOf,Builtin.firstCells,sizeOf,typeInfo,hi,Ii,<-hn,hl,I7]
theorem mh{w:World}{g:Nat}{cur:Array Value}(hg:w.heap[g]?=some (.cells cur 144 (0,0)))(o n:Nat):∀j v,((cur.toList.drop o).take n)[j]?=some v->w.cell? ((⟨g,o,none⟩:Addr).add j)=some v:=by
 intro j v hj
 have Jm:(⟨g,o,none⟩:Addr).add j=⟨g,o+j,none⟩:=by unfold Addr.add; split<;>simp_all
 rw[Jm,cell_of_row w g (o+j) cur _ _ hg];rw[List.getElem?_take]at hj
 split at hj
 .rw[List.getElem?_drop]at hj; simpa using hj
 .cases hj
def bf(l:List (Int × Int))(i:Nat)(x:Int × Int):List (Int × Int):=l.take i ++ x :: l.drop i
theorem wh(l:List (Int × Int))(a:Option Addr)(cap B:Nat)(x y:Int)(bv c1:Nat)(w:World)(hl:l.length<=100)(hr:bX B w (.slice a l.length cap) l)(hB:B<=w.heap.size)(hx:w.cell? ⟨bv,0,none⟩=some (.int .i64 x))(hy:w.cell? ⟨bv,1,none⟩=some (.int .i64 y)) : Calls Tryz.prog 191 #[.slice a l.length cap,.int .i64 l.length,.slice (some ⟨bv,0,none⟩) 1 c1] w λe w'=>∃v',e=.returned v'/\bX B w' v' (bf l l.length (x,y))/\Below B w w':=by
 obtain⟨i0,hi,Ij,Ii,Im⟩:=info_parts Tryz.infoReg
 have IA:∀j u,(ah [(x,y)])[j]?=some u->w.cell? ((⟨bv,0,none⟩:Addr).add j)=some u:=by
  intro j u hj
  have Jm:(⟨bv,0,none⟩:Addr).add j=⟨bv,j,none⟩:=by unfold Addr.add; split<;>simp_all
  rw[Jm]
  match j,hj with
  | 0,hj=>simp[ah]at hj; rw[hx,hj]
  | 1,hj=>simp[ah]at hj; rw[hy,hj]
  | j+2,hj=>simp[ah]at hj
 have HR:=Hx hr
 have IF:l.length<=cap:=by
  obtain⟨_,h2⟩:=hr
  rcases h2 with⟨_,h0⟩ | ⟨g,cap',cur,e1,_,_,h3,_⟩
  .omega
  .simp at e1; omega
 have blk:∀k,a.map (·.block)=some k->B<=k:=by
  obtain⟨_,h2⟩:=hr
  rcases h2 with⟨e1,_⟩ | ⟨g,cap',cur,e1,hg,_⟩
  .simp at e1; intro k hk; rw[e1.1]at hk; cases hk
  .simp at e1; intro k hk; rw[e1.1]at hk; simp at hk; omega
 have blk2:∀k c,(Value.slice a l.length c).ownBlock=some k->B<=k:=λk c hk=>blk k (by cases a<;>simp[Value.ownBlock]at hk ⊢; exact hk);have BLK:=Hx blk2;clear hr blk blk2;go_enter Tryz.func191,Tryz.ntmps191
 go_wp2_with (at_builtin; refine wpList_append_own _ rfl _ _ 32 rfl B 144 i0 (.agg #[.int .i64 0,.int .i64 0]) 2 16 Tryz.underlying32 hi Ij Ii Im rfl (by decide) _ _ _ rfl HR.out ⟨bv,0,none⟩ 1 c1 (ah [(x,y)]) rfl rfl IA (bC _) ?c3 ?c4 ?c5 ?_)
 case c3=>unfold maxLen; omega
 case c4=>omega
 case c5=>omega
 all_goals
  intro v' w1 jZ Il _
  have hfin:bX B w1 v' (bf l l.length (x,y)):=by unfold bX bf;simpa[bQ] using jZ
  have MZ:Below B w w1:=(Below.refl B w).grown Il hB (λk hk=>BLK.out k _ hk);clear jZ Il;go_wp2;go_ret;exact⟨_,rfl,hfin,MZ⟩
theorem wpList_copy_run{P:Program}(w:World){ops:Array Oper}{rest:List Oper}{o:Oper}{a:Act}{Q:Exit->Act->World->Prop}(I9:o.guard=none)(s x:Operand)(t tn:TypeId)(ho:o.op=.call { callee:=.builtin .copy,args:=#[s,x],argTypes:=#[t,tn] })(vs vx:Value)(hs:a.eval s=vs)(hx:a.eval x=vx)(v':Value)(w':World)(hr:(Builtin.copy_ #[t,tn] o.type #[vs,vx]).run P w=.ok v' w')(h:wpList P ops Q rest (a.put o.dst v') w'):wpList P ops Q (o :: rest) a w :=
 wpList_plain I9 λK hK=>by unfold Oper.wp execOp;simp only[ho,resolve,invoke,builtin,Sem.run_bind,Sem.run_pure,Result.andThen_ok,List.map_toArray,List.map_cons,List.map_nil,hs,hx,hr];exact hK _ _ h
theorem vZ(l:List (Int × Int))(cur:List Value)(i:Nat)(x y:Int)(hi:i<l.length)(hc:(l.length+1)*2<=cur.length)(ht:cur.take (l.length*2)=ah l) : let m:=cur.take ((i+1)*2) ++ (cur.drop (i*2)).take ((l.length - i)*2) ++ cur.drop ((i+1)*2+(l.length - i)*2)
  let f:=m.take (i*2) ++ ah [(x,y)] ++ m.drop (i*2+2)
  f.length=cur.length/\f.take ((l.length+1)*2)=ah (bf l i (x,y)):=by
 intro m f
 have e1:cur.take (i*2)=ah (l.take i):=by
  have:(cur.take (l.length*2)).take (i*2)=(ah l).take (i*2):=by rw[ht]
  rw[List.take_take,Nat.min_eq_left (by omega)]at this;rw[this]
  have h2:ah l=ah (l.take i) ++ ah (l.drop i):=by rw[<-bQ,List.take_append_drop]
  rw[h2,List.take_append_of_le_length (by rw[aF]; simp; omega),List.take_of_length_le (by rw[aF]; simp; omega)]
 have e2:(cur.drop (i*2)).take ((l.length - i)*2)=ah (l.drop i):=by
  have h3:(cur.take (l.length*2)).drop (i*2)=(ah l).drop (i*2):=by rw[ht]
  rw[List.drop_take]at h3;rw[show(l.length - i)*2=l.length*2 - i*2 from by omega,h3]
  have h2:ah l=ah (l.take i) ++ ah (l.drop i):=by rw[<-bQ,List.take_append_drop]
  rw[h2,List.drop_append_of_le_length (by rw[aF]; simp; omega),List.drop_of_length_le (by rw[aF]; simp; omega)];rfl
 have hm:m=cur.take ((i+1)*2) ++ ah (l.drop i) ++ cur.drop ((i+1)*2+(l.length - i)*2):=by rw[<-e2]
 have hl1:(cur.take ((i+1)*2)).length=i*2+2:=by simp; omega
 have hm1:m.take (i*2)=ah (l.take i):=by rw[hm,List.append_assoc,List.take_append_of_le_length (by omega),List.take_take,Nat.min_eq_left (by omega),e1]
 have hm2:m.drop (i*2+2)=ah (l.drop i) ++ cur.drop ((i+1)*2+(l.length - i)*2):=by rw[hm,List.append_assoc,List.drop_append_of_le_length (by omega),List.drop_of_length_le (by omega)];rfl
 have hf:f=ah (bf l i (x,y)) ++ cur.drop ((i+1)*2+(l.length - i)*2):=by show m.take (i*2) ++ ah [(x,y)] ++ m.drop (i*2+2)=_;rw[hm1,hm2];unfold bf;simp[ah]
 have JI:(ah (bf l i (x,y))).length=(l.length+1)*2:=by rw[aF]; unfold bf; simp; omega
 refine⟨?_,?_⟩
 .rw[hf]; simp only[List.length_append,JI,List.length_drop]; omega
 .rw[hf,List.take_append_of_le_length (by omega),List.take_of_length_le (by omega)]
theorem rX(w:World)(bv g o c1:Nat)(cv cur:Array Value)(T T':TypeId)(Ik:bv≠g)(hv:w.heap[bv]?=some (.cells cv T (0,0)))(hg:w.heap[g]?=some (.cells cur T' (0,0)))(hc:cur.size≠0)(lb cb:Nat) : (callFunc 211 #[.slice (some ⟨bv,0,none⟩) 1 c1,.slice (some ⟨g,o,none⟩) lb cb]).run Tryz.prog w=.ok (.value (.bool false)) w:=by
 rw[run_callFunc_extern Tryz.func211 (by kernel_rfl) (by kernel_rfl) (by kernel_rfl) (e:=Extern.SlicesOverlaps.overlaps #[32,32] #[4]) (by kernel_rfl),
  Lib.run_overlaps_apart w 32 4 144 Tryz.underlying32 2 (λw=>by kernel_rfl) ⟨bv,0,none⟩ ⟨g,o,none⟩ 1 c1 lb cb Ik T T' cv.size cur.size (by simp[World.shape?,hv]) (by simp[World.shape?,hg]) hc (by simp[World.frozen?,hv]) (by simp[World.frozen?,hv])]
 rfl
theorem Hy(l:List (Int × Int))(g cap B i:Nat)(x y:Int)(bv c1:Nat)(T:TypeId)(cur:Array Value)(w:World)(hl:l.length<=100)(hi:i<l.length)(hroom:l.length+1<=cap)(MY:cap<=maxLen)(hgB:B<=g)(LJ:w.heap[g]?=some (.cells cur 144 (0,0)))(Iu:cur.size=cap*2)(ht:cur.toList.take (l.length*2)=ah l)(hv:w.heap[bv]?=some (.cells #[.int .i64 x,.int .i64 y] T (0,0)))(Ik:bv≠g) : Calls Tryz.prog 191 #[.slice (some ⟨g,0,none⟩) l.length cap,.int .i64 i,.slice (some ⟨bv,0,none⟩) 1 c1] w λe w'=>∃v',e=.returned v'/\bX B w' v' (bf l i (x,y))/\Below B w w':=by
 obtain⟨hf1,hf2⟩:=vZ l cur.toList i x y hi (by simp; omega) ht;have hov:=rX w bv g ((i+1)*2) c1 _ _ T _ Ik hv LJ (by omega);have hlp:∀m:List (Int × Int),∀v∈ah m,v.oneCell'=true:=bC
 have Me:∀v∈(cur.toList.drop (i*2)).take ((l.length - i)*2),v.oneCell'=true:=by
  have e2:(cur.toList.drop (i*2)).take ((l.length - i)*2)=(ah l).drop (i*2):=by rw[<-ht,List.drop_take,show l.length*2 - i*2=(l.length - i)*2 from by omega]
  rw[e2];exact λv hv=>bC l v (List.mem_of_mem_drop hv)
 have MX:∀ty dc sc,(Builtin.copy_ #[32,32] ty #[.slice (some ⟨g,(i+1)*2,none⟩) (l.length - i) dc,.slice (some ⟨g,i*2,none⟩) (l.length+1 - i) sc]).run Tryz.prog w.drew=.ok (goInt (l.length - i:Nat)) (w.drew.setRow g (cur.toList.take ((i+1)*2) ++ (cur.toList.drop (i*2)).take ((l.length - i)*2) ++ cur.toList.drop ((i+1)*2+(l.length - i)*2)).toArray):=by
  intro ty dc sc
  have hlen:((cur.toList.drop (i*2)).take ((l.length - i)*2)).length=(l.length - i)*2:=by simp; omega
  have JA:Nat.min (l.length+1 - i) (l.length - i)=l.length - i:=by simp only[Nat.min_def]; split<;>omega
  have:=fM w.drew ty g ((i+1)*2) (l.length - i) dc ⟨g,i*2,none⟩ (l.length+1 - i) sc cur ((cur.toList.drop (i*2)).take ((l.length - i)*2)) LJ (by rw[hlen,JA]) (mh (w:=w.drew) LJ (i*2) ((l.length - i)*2)) (by rw[hlen]; omega) Me;rw[this,JA,hlen]
 obtain⟨m,hm⟩:=Nn (cur.toList.take ((i+1)*2) ++ (cur.toList.drop (i*2)).take ((l.length - i)*2) ++ cur.toList.drop ((i+1)*2+(l.length - i)*2));rw[<-hm]at MX hf1 hf2
 have hml:m.length=cur.size:=by have:(m.take (i*2) ++ ah [(x,y)] ++ m.drop (i*2+2)).length=cur.toList.length:=hf1;rw[hm]; simp; omega
 obtain⟨W1,JS⟩:=Nn (w.drew.setRow g m.toArray);rw[<-JS]at MX
 have Il:W1.heap[g]?=some (.cells m.toArray 144 (0,0)):=by rw[JS]; exact setRow_heap _ _ _ _ _ _ LJ
 have JH:W1.heap[bv]?=some (.cells #[.int .i64 x,.int .i64 y] T (0,0)):=by rw[JS,setRow_other _ _ _ _ Ik]; exact hv
 have MZ:Below B w W1:=by rw[JS]; exact aN ((Below.refl B w).drew) hgB _
 have hcp2:∀ty dc,(Builtin.copy_ #[32,32] ty #[.slice (some ⟨g,i*2,none⟩) (l.length+1 - i) dc,.slice (some ⟨bv,0,none⟩) 1 c1]).run Tryz.prog W1=.ok (goInt (1:Nat)) (W1.setRow g (m.take (i*2) ++ ah [(x,y)] ++ m.drop (i*2+2)).toArray):=by
  intro ty dc
  have JA:Nat.min 1 (l.length+1 - i)=1:=by simp only[Nat.min_def]; split<;>omega
  have:=fM W1 ty g (i*2) (l.length+1 - i) dc ⟨bv,0,none⟩ 1 c1 m.toArray (ah [(x,y)]) Il (by rw[JA]; rfl) (λj u hj=>by
   have Jm:(⟨bv,0,none⟩:Addr).add j=⟨bv,j,none⟩:=by unfold Addr.add; split<;>simp_all
   rw[Jm,cell_of_row _ _ _ _ _ _ JH]
   match j,hj with
   | 0,hj=>simpa[ah] using hj
   | 1,hj=>simpa[ah] using hj
   | j+2,hj=>simp[ah]at hj) (by simp[ah]; omega) (bC _)
  rw[this,JA];rfl
 have HF1:=Hx hf1;have HF2:=Hx hf2;have HM:=Hx hml;clear hf1 hf2 hm hml Me hlp ht hv JH JS;have HG1:=Hx Il;clear Il;unfold maxLen at MY
 have hib:((i:Int) == (l.length:Int))=false:=by simp; omega
 go_enter Tryz.func191,Tryz.ntmps191
 have pX:IntKind.i64.wrap ((i:Int)+1)=(i:Int)+1:=by rw[IntKind.wrap_i64]; omega
 have wC:(0:Int)<=(i:Int)+1:=by omega
 have hin:i<=l.length:=by omega
 have htn:((i:Int)+1).toNat=i+1:=by omega
 have Ih:¬ (cap=i+1):=by omega
 have IK:(i:Int)<=(l.length:Int)+1:=by omega
 have JQ:¬ (cap=i):=by omega
 go_wp2_with (simp only[hov])
 go_region_law (refine step_copy_reg rfl _ _ 32 32 rfl _ _ (by simp[Act.eval,Act.put]) (by simp[Act.eval,Act.put]) (MX _ _ _) ?_)
 go_wp2_with (refine wpList_copy_run _ rfl _ _ 32 32 rfl _ _ rfl rfl _ _ (hcp2 _ _) ?_);go_ret;refine⟨_,rfl,?_,aN MZ hgB _⟩;refine⟨aF _,.inr ⟨g,cap,_,?_,hgB,setRow_heap _ _ _ _ _ _ HG1.out,?_,by unfold maxLen; omega,?_,?_⟩⟩
 .show Value.slice (some ⟨g,0,none⟩) (l.length+1) cap=_;congr 1;unfold bf; simp; omega
 .unfold bf; simp; omega
 .have:=HF1.out; simp at this⊢; omega
 .have e:(bf l i (x,y)).length=l.length+1:=by unfold bf; simp; omega
  rw[e];have:=HF2.out;rw[List.append_assoc]at this;exact this
theorem BM(l:List (Int × Int))(C:List Value)(i:Nat)(x y:Int)(hi:i<l.length)(hc:(l.length+1)*2<=C.length)(ht:C.take (i*2)=ah (l.take i)) : let m:=C.take (i*2) ++ ah [(x,y)] ++ C.drop (i*2+2)
  let f:=m.take ((i+1)*2) ++ ah (l.drop i) ++ m.drop ((i+1)*2+(l.length - i)*2)
  m.length=C.length/\f.length=C.length/\f.take ((l.length+1)*2)=ah (bf l i (x,y)):=by
 intro m f;have hp:(ah [(x,y)]).length=2:=rfl
 have hd:(ah (l.drop i)).length=(l.length - i)*2:=by rw[aF]; simp
 have hm:m=ah (l.take i ++ [(x,y)]) ++ C.drop (i*2+2):=by show C.take (i*2) ++ ah [(x,y)] ++ C.drop (i*2+2)=_;rw[ht,bQ]
 have hl1:(ah (l.take i ++ [(x,y)])).length=(i+1)*2:=by rw[aF]; simp; omega
 have hml:m.length=C.length:=by rw[hm]; simp only[List.length_append,hl1,List.length_drop]; omega
 have hm1:m.take ((i+1)*2)=ah (l.take i ++ [(x,y)]):=by rw[hm,List.take_append_of_le_length (by omega),List.take_of_length_le (by omega)]
 have hf:f=ah (bf l i (x,y)) ++ m.drop ((i+1)*2+(l.length - i)*2):=by show m.take ((i+1)*2) ++ ah (l.drop i) ++ m.drop ((i+1)*2+(l.length - i)*2)=_;rw[hm1,<-bQ];unfold bf;simp
 have JI:(ah (bf l i (x,y))).length=(l.length+1)*2:=by rw[aF]; unfold bf; simp; omega
 refine⟨hml,?_,?_⟩
 .rw[hf]; simp only[List.length_append,JI,List.length_drop]; omega
 .rw[hf,List.take_append_of_le_length (by omega),List.take_of_length_le (by omega)]
theorem xU(n:Nat):(Builtin.zeroCells #[.int .i64 0,.int .i64 0] n).toList.length=n*2:=by rw[qh]; simp
theorem uC(l:List (Int × Int))(g B i:Nat)(x y:Int)(bv c1:Nat)(T:TypeId)(cur:Array Value)(w:World)(hl:l.length<=100)(hi:i<l.length)(hB:B<=w.heap.size)(LJ:w.heap[g]?=some (.cells cur 144 (0,0)))(Iu:cur.size=l.length*2)(ht:cur.toList.take (l.length*2)=ah l)(hv:w.heap[bv]?=some (.cells #[.int .i64 x,.int .i64 y] T (0,0))) : Calls Tryz.prog 191 #[.slice (some ⟨g,0,none⟩) l.length l.length,.int .i64 i,.slice (some ⟨bv,0,none⟩) 1 c1] w λe w'=>∃v',e=.returned v'/\bX B w' v' (bf l i (x,y))/\Below B w w':=by
 obtain⟨i0,hin0,Ij,Ii,Im⟩:=info_parts Tryz.infoReg
 have htl:cur.toList=ah l:=by rw[<-ht,List.take_of_length_le (by simp; omega)]
 have LI:g<w.heap.size:=(Gl LJ)
 have hbvlt:bv<w.heap.size:=(Gl hv)
 have Lr:ah l=ah (l.take i) ++ ah (l.drop i):=by rw[<-bQ,List.take_append_drop]
 have Lp:(ah (l.take i)).length=i*2:=by rw[aF]; simp; omega
 have hdk:(ah (l.drop i)).length=(l.length - i)*2:=by rw[aF]; simp
 have hold:(Builtin.firstCells i0.size i (.slice (some ⟨g,0,none⟩) i l.length)).run Tryz.prog w.drew=.ok (ah (l.take i)).toArray w.drew:=by
  rw[Ii]
  have h1:=run_loadCells_list (P:=Tryz.prog) w.drew ⟨g,0,none⟩ (ah (l.take i)) (λj u hj=>by
   refine mh (w:=w.drew) LJ 0 (i*2) j u ?_;rw[htl,Lr,List.drop_zero,List.take_append_of_le_length (by omega),List.take_of_length_le (by omega)]
   exact hj)
  rw[Lp]at h1;exact h1
 have hnx:Builtin.nextslicecap (i+(l.length+1 - i)) l.length<=1000:=by
  unfold Builtin.nextslicecap
  split
  .omega
  .rw[if_pos (by omega)]; omega
 have Oc:=λty=>Lib.run_append_grow_zeros (P:=Tryz.prog) w 32 3 ty 144 i0 (.agg #[.int .i64 0,.int .i64 0]) .i64 .i64 Tryz.underlying32 Tryz.underlying3 hin0 Ij (some ⟨g,0,none⟩) i l.length (ah (l.take i)) hold (l.length+1 - i) (by omega) (by omega) (by omega) (by omega) (by rw[Im]; omega) (by rw[Im]; omega);rw[show i+(l.length+1 - i)=l.length+1 from by omega,show((l.length+1 - i:Nat):Int)=(l.length:Int)+1 - (i:Int) from by omega]at Oc;have hc1:=grownCap_ge w (l.length+1) l.length 144;have N9:=grownCap_le_maxLen w (l.length+1) l.length 144 (by unfold maxLen; omega)
 generalize grownCap w (l.length+1) l.length 144=c at Oc hc1 N9
 obtain⟨C,hC⟩:∃C:Array Value,C=(ah (l.take i)).toArray ++ Builtin.zeroCells (Value.agg #[.int .i64 0,.int .i64 0]).cells (l.length+1 - i) ++ Builtin.zeroCells (Value.agg #[.int .i64 0,.int .i64 0]).cells (c - (l.length+1)):=⟨_,rfl⟩
 rw[<-hC]at Oc
 have hCl:C.toList=ah (l.take i) ++ ((Builtin.zeroCells #[.int .i64 0,.int .i64 0] (l.length+1 - i)).toList ++ (Builtin.zeroCells #[.int .i64 0,.int .i64 0] (c - (l.length+1))).toList):=by rw[hC]; simp[Value.cells]
 have hCs:C.size=c*2:=by
  have:C.toList.length=c*2:=by rw[hCl]; simp only[List.length_append,Lp,xU]; omega
  simpa using this
 have hCt:C.toList.take (i*2)=ah (l.take i):=by rw[hCl,List.take_append_of_le_length (by omega),List.take_of_length_le (by omega)]
 obtain⟨gm,gf,gt⟩:=BM l C.toList i x y hi (by simp; omega) hCt;obtain⟨m,hm⟩:=Nn (C.toList.take (i*2) ++ ah [(x,y)] ++ C.toList.drop (i*2+2));rw[<-hm]at gm gf gt;obtain⟨W1,JS⟩:=Nn (w.drew.alloc (.cells C 144));rw[<-JS]at Oc
 have Il:W1.heap[w.heap.size]?=some (.cells C 144 (0,0)):=by rw[JS]; exact heap_alloc_new w.drew _
 have hgg:W1.heap[g]?=some (.cells cur 144 (0,0)):=by rw[JS,Below.heap_alloc w.drew _ _ LI]; exact LJ
 have hvv:W1.heap[bv]?=some (.cells #[.int .i64 x,.int .i64 y] T (0,0)):=by rw[JS,Below.heap_alloc w.drew _ _ hbvlt]; exact hv
 have wC:Below B w W1:=by rw[JS]; exact((Below.refl B w).drew).alloc hB _
 have MX:∀ty dc,(Builtin.copy_ #[32,32] ty #[.slice (some ⟨w.heap.size,i*2,none⟩) (l.length+1 - i) dc,.slice (some ⟨bv,0,none⟩) 1 c1]).run Tryz.prog W1=.ok (goInt (1:Nat)) (W1.setRow w.heap.size m.toArray):=by
  intro ty dc
  have JA:Nat.min 1 (l.length+1 - i)=1:=by simp only[Nat.min_def]; split<;>omega
  have:=fM W1 ty w.heap.size (i*2) (l.length+1 - i) dc ⟨bv,0,none⟩ 1 c1 C (ah [(x,y)]) Il (by rw[JA]; rfl) (λj u hj=>by
   have Jm:(⟨bv,0,none⟩:Addr).add j=⟨bv,j,none⟩:=by unfold Addr.add; split<;>simp_all
   rw[Jm,cell_of_row _ _ _ _ _ _ hvv]
   match j,hj with
   | 0,hj=>simpa[ah] using hj
   | 1,hj=>simpa[ah] using hj
   | j+2,hj=>simp[ah]at hj) (by simp[ah]; omega) (bC _)
  rw[this,JA,hm];rfl
 obtain⟨W2,hW2⟩:=Nn (W1.setRow w.heap.size m.toArray);rw[<-hW2]at MX
 have Ja:W2.heap[w.heap.size]?=some (.cells m.toArray 144 (0,0)):=by rw[hW2]; exact setRow_heap _ _ _ _ _ _ Il
 have hgg2:W2.heap[g]?=some (.cells cur 144 (0,0)):=by rw[hW2,setRow_other _ _ _ _ (by omega)]; exact hgg
 have Ih:Below B w W2:=by rw[hW2]; exact aN wC hB _
 have hms:m.toArray.size=c*2:=by simpa[hCs] using gm
 have hcp2:∀ty dc sc,(Builtin.copy_ #[32,32] ty #[.slice (some ⟨w.heap.size,(i+1)*2,none⟩) (l.length - i) dc,.slice (some ⟨g,i*2,none⟩) (l.length - i) sc]).run Tryz.prog W2.drew=.ok (goInt (l.length - i:Nat)) (W2.drew.setRow w.heap.size (m.take ((i+1)*2) ++ ah (l.drop i) ++ m.drop ((i+1)*2+(l.length - i)*2)).toArray):=by
  intro ty dc sc
  have JA:Nat.min (l.length - i) (l.length - i)=l.length - i:=by simp
  have:=fM W2.drew ty w.heap.size ((i+1)*2) (l.length - i) dc ⟨g,i*2,none⟩ (l.length - i) sc m.toArray (ah (l.drop i)) Ja (by rw[hdk,JA]) (λj u hj=>by
   refine mh (w:=W2.drew) hgg2 (i*2) ((l.length - i)*2) j u ?_;rw[htl,Lr,List.drop_append_of_le_length (by omega),List.drop_of_length_le (by omega),List.nil_append,List.take_of_length_le (by omega)]
   exact hj) (by rw[hdk]; omega) (bC _)
  rw[this,JA,hdk]
 have GF:=Hx gf;have GT:=Hx gt;have HG2:=Hx Ja;clear gm gf gt hm hC hCl hCt JS hW2 Il hgg hvv Ja hgg2 hv LJ htl Lr ht hold;unfold maxLen at N9
 have hib:((i:Int) == (l.length:Int))=false:=by simp; omega
 have pX:IntKind.i64.wrap ((i:Int)+1)=(i:Int)+1:=by rw[IntKind.wrap_i64]; omega
 have hbb1:(0:Int)<=(i:Int)+1:=by omega
 have hin:i<=l.length:=by omega
 have htn:((i:Int)+1).toNat=i+1:=by omega
 have hb2':¬ (c=i+1):=by omega
 have IK:(i:Int)<=(l.length:Int)+1:=by omega
 have JQ:¬ (l.length=i):=by omega
 have hb5:¬ (c=i):=by omega
 go_enter Tryz.func191,Tryz.ntmps191
 go_wp2_with (first|(refine Lib.wpList_append_run _ rfl _ _ 32 3 rfl _ _ rfl rfl _ _ (Oc _) ?_)|(refine wpList_copy_run _ rfl _ _ 32 32 rfl _ _ rfl rfl _ _ (MX _ _) ?_))
 go_region_law (refine step_copy_reg rfl _ _ 32 32 rfl _ _ (by simp[Act.eval,Act.put]) (by simp[Act.eval,Act.put]) (hcp2 _ _ _) ?_)
 go_wp2;go_ret;refine⟨_,rfl,?_,aN (Ih.drew) hB _⟩;refine⟨aF _,.inr ⟨w.heap.size,c,_,?_,hB,setRow_heap _ _ _ _ _ _ HG2.out,?_,by unfold maxLen; omega,?_,?_⟩⟩
 .show Value.slice (some ⟨w.heap.size,0,none⟩) (l.length+1) c=_;congr 1;unfold bf; simp; omega
 .unfold bf; simp; omega
 .have:=GF.out; simp at this⊢; simp at hms; omega
 .have e:(bf l i (x,y)).length=l.length+1:=by unfold bf; simp; omega
  rw[e];have:=GT.out;rw[List.append_assoc]at this;exact this
theorem qj(x y who:Int)(w:World)(hx:0<=x/\x<=1000)(hw:0<=who/\who<=1000) : Calls Tryz.prog 190 #[.agg #[.int .i64 x,.int .i64 y],.int .i64 who] w λe w'=>e=.returned (.int .i64 (x - who))/\Below w.heap.size w w':=by
 obtain⟨hx1,hx2⟩:=hx;obtain⟨pX,IQ⟩:=hw;go_enter Tryz.func190,Tryz.ntmps190
 go_wp2;go_ret;exact⟨rfl,ay w _⟩
theorem qf(l:List (Int × Int))(a:Option Addr)(cap:Nat)(who:Int)(w:World)(hl:l.length<=1000)(hr:bE w.heap.size w a l)(hw:0<=who/\who<=1000)(hb:∀r∈l,0<=r.1/\r.1<=1000)(hs:l.Pairwise (λa b=>a.1<b.1)) :
  Calls Tryz.prog 189 #[.slice a l.length cap,.int .i64 who,.func (.func 190) #[] #[]] w λe w' =>
   ∃(i:Nat) (f:Bool),e=.returned (.tuple #[.int .i64 i,.bool f])/\i<=l.length/\(∀j (h:j<l.length),j<i->l[j].1<who)/\(∀j (h:j<l.length),i<=j->who<=l[j].1)/\Below w.heap.size w w':=by
 have HS:=Hx hs;have HB:=Hx hb;clear hs hb;have HW:=Hx hw;obtain⟨pX,IQ⟩:=hw;go_enter Tryz.func189,Tryz.ntmps189
 go_wp2;go_loopw [9,10] (λi j wr=>∃p q:Nat,p<=q/\q<=l.length/\i=.int .i64 p/\j=.int .i64 q/\(∀m (h:m<l.length),m<p->l[m].1<who)/\(∀m (h:m<l.length),q<=m->who<=l[m].1)/\Below w.heap.size w wr) (λi j _=>(intOf j).toNat - (intOf i).toNat)
 case atStart=>exact⟨0,l.length,by omega,by omega,rfl,rfl,λm h h2=>absurd h2 (by omega),λm h h2=>absurd h (by omega),Below.refl _ _⟩
 case round =>
  obtain⟨p,q,hpq,hq,rfl,rfl,NQ,Lo,Ir⟩:=hrel;have HLO:=Hx NQ;have HHI:=Hx Lo;clear NQ Lo;have hsz:=Ir.size;by_cases lB:p<q
  .have hm:(p+q) / 2<l.length:=by omega
   obtain⟨b,o,rfl,Ix,h1,h2⟩:=hr ((p+q) / 2) hm;have c1:=(Ir.cell (p:=⟨b,o+(p+q) / 2*2,none⟩) Ix).trans h1;have c2:=(Ir.cell (p:=⟨b,o+(p+q) / 2*2+1,none⟩) Ix).trans h2;have hbd:=HB.out _ (List.getElem_mem hm);clear hr h1 h2;go_wp2_with fail;refine(qj _ _ who _ hbd HW.out).mono ?_;rintro e w1 ⟨rfl,wC⟩;have Ih:=Ir.trans (wC.mono hsz);have Nx:=Hx (List.pairwise_iff_getElem.1 HS.out);by_cases hv:l[(p+q) / 2].1 - who<0
   .go_wp2;go_roundw
    case rel =>
     refine⟨(p+q) / 2+1,q,by omega,by omega,by go_num,rfl,λm h hm2=>?_,HHI.out,Ih⟩
     rcases (by omega:m<(p+q) / 2\/m=(p+q) / 2) with h3 | h3
     .have:=Nx.out m ((p+q) / 2) h hm h3; omega
     .subst h3; omega
    case measure=>simp[intOf]; omega
   .go_wp2;go_roundw
    case rel =>
     refine⟨p,(p+q) / 2,by omega,by omega,rfl,by go_num,HLO.out,λm h hm2=>?_,Ih⟩
     rcases (by omega:(p+q) / 2<m\/m=(p+q) / 2) with h3 | h3
     .have:=Nx.out ((p+q) / 2) m hm h h3; omega
     .subst h3; omega
    case measure=>simp[intOf]; omega
  .obtain rfl:p=q:=by omega
   by_cases hn:p<l.length
   .obtain⟨b,o,rfl,Ix,h1,h2⟩:=hr p hn;have c1:=(Ir.cell (p:=⟨b,o+p*2,none⟩) Ix).trans h1;have c2:=(Ir.cell (p:=⟨b,o+p*2+1,none⟩) Ix).trans h2;have hbd:=HB.out _ (List.getElem_mem hn);clear hr h1 h2;go_wp2_with fail;refine(qj _ _ who _ hbd HW.out).mono ?_;rintro e w1 ⟨rfl,wC⟩;have Ih:=Ir.trans (wC.mono hsz);go_wp2
    go_ret2
    exact⟨p,_,rfl,by omega,HLO.out,HHI.out,Ih⟩
   .go_wp2
    go_ret2
    exact⟨p,_,rfl,by omega,HLO.out,HHI.out,Ir⟩
theorem bX.lo{B:Nat}{w:World}{a:Option Addr}{n c:Nat}{l:List (Int × Int)}(h:bX B w (.slice a n c) l):∀b o,a=some ⟨b,o,none⟩->B<=b:=by
 obtain⟨_,h2⟩:=h
 rcases h2 with⟨e1,_⟩ | ⟨g,cap',cur,e1,hg,_⟩
 .simp at e1; intro b o hk; rw[e1.1]at hk; cases hk
 .simp at e1; intro b o hk; rw[e1.1]at hk; simp at hk; omega
theorem bE.setCell{B:Nat}{w:World}{a:Option Addr}{l:List (Int × Int)}(h:bE B w a l){p:Addr}(hp:∀b o,a=some ⟨b,o,none⟩->b≠p.block)(u:Value):bE B (w.setCell p u) a l:=by intro i hi;obtain⟨b,o,rfl,hb,h1,h2⟩:=h i hi;have Ik:=hp b o rfl;have hh:(w.setCell p u).heap[b]?=w.heap[b]?:=Below.heap_setCell _ _ _ _ Ik;exact⟨b,o,rfl,hb,(World.cell?_of_block (w:=w) hh).trans h1,(World.cell?_of_block (w:=w) hh).trans h2⟩
theorem wj(l:List (Int × Int))(a:Option Addr)(cap B i:Nat)(x y:Int)(T:TypeId)(w:World)(hl:l.length<=100)(hi:i<=l.length)(hr:bX B w (.slice a l.length cap) l)(hB:B<=w.heap.size) : Calls Tryz.prog 191 #[.slice a l.length cap,.int .i64 i,.slice (some ⟨w.heap.size,0,none⟩) 1 1] (w.alloc (.cells #[.int .i64 x,.int .i64 y] T)) λe w'=>∃v',e=.returned v'/\bX B w' v' (bf l i (x,y))/\Below B (w.alloc (.cells #[.int .i64 x,.int .i64 y] T)) w':=by
 have Jd:=hr.below (ay w (.cells #[.int .i64 x,.int .i64 y] T))
 have hB1:B<=(w.alloc (.cells #[.int .i64 x,.int .i64 y] T)).heap.size:=by simp; omega
 rcases (by omega:i=l.length\/i<l.length) with rfl | lB
 .exact wh l a cap B x y w.heap.size 1 _ hl Jd hB1 (by simp) (by simp)
 .obtain⟨h1,h2⟩:=hr
  rcases h2 with⟨_,h0⟩ | ⟨g,cap',cur,e1,hgB,LJ,hnc,MY,Iu,ht⟩
  .omega
  .obtain⟨rfl,rfl⟩:a=some ⟨g,0,none⟩/\cap=cap':=by simpa using e1
   have LI:g<w.heap.size:=(Gl LJ)
   have hgh1:(w.alloc (.cells #[.int .i64 x,.int .i64 y] T)).heap[g]?=some (.cells cur 144 (0,0)):=by rw[Below.heap_alloc w _ _ LI]; exact LJ
   rcases (by omega:l.length+1<=cap\/cap=l.length) with hroom | rfl
   .exact Hy l g cap B i x y w.heap.size 1 T cur _ hl lB hroom MY hgB hgh1 Iu ht (heap_alloc_new _ _) (by omega)
   .exact uC l g B i x y w.heap.size 1 T cur _ hl lB hB1 hgh1 Iu ht (heap_alloc_new _ _)
def ins (who key:Int):List (Int × Int)->List (Int × Int)
 | []=>[(who,key)]
 | r :: l=>if r.1<who then r :: ins who key l else(who,key) :: r :: l
def aZ(l:List (Int × Int))(who key:Int):List (Int × Int):=if 0<key then ins who key (without who l) else without who l
theorem lL(who key:Int):∀(l:List (Int × Int)) (i:Nat),i<=l.length->(∀j (h:j<l.length),j<i->l[j].1<who)->(∀j (h:j<l.length),i<=j->who<=l[j].1)->bf l i (who,key)=ins who key l
 | [],i,hi,_,_=>by
  have:i=0:=by simpa using hi
  subst this; rfl
 | r :: l,0,_,_,h2=>by
  have:=h2 0 (by simp) (by omega);simp at this;unfold ins;rw[if_neg (by omega)]; rfl
 | r :: l,i+1,hi,h1,h2=>by have:=h1 0 (by simp) (by omega);simp at this;unfold ins;rw[if_pos this,<-lL who key l i (by simpa using hi) (λj h hj=>by have:=h1 (j+1) (by simp; omega) (by omega); simpa using this) (λj h hj=>by have:=h2 (j+1) (by simp; omega) (by omega); simpa using this)];rfl
def St.withRegs(s:St)(l:List (Int × Int)):St:=⟨s.gen,l,s.typ,s.holder,s.stays⟩
theorem jb(who:Int)(l:List (Int × Int)):(without who l).length<=l.length:=List.length_filter_le _ _
theorem sl(who key:Int):∀l:List (Int × Int),(ins who key l).length=l.length+1
 | []=>rfl
 | r :: l=>by unfold ins; split<;>simp[sl who key l]
theorem Dp(s:St)(a:Option Addr)(cap:Nat)(who key:Int)(w:World)(hr:bj w s a)(hl:s.regs.length<=50)(hw:0<=who/\who<=1000)(hb:∀r∈s.regs,0<=r.1/\r.1<=1000)(hs:s.regs.Pairwise (λa b=>a.1<b.1)) :
  Calls Tryz.prog 162 #[dh s a cap,.int .i64 who,.int .i64 key] w λe w'=>∃a' cap',e=.returned (dh (s.withRegs (aZ s.regs who key)) a' cap')/\bj w' (s.withRegs (aZ s.regs who key)) a'/\Below w.heap.size w w'/\(∀b o,a'=some ⟨b,o,none⟩->w.heap.size<=b):=by
 obtain⟨g,l,t,h,st⟩:=s;dsimp only at hl hb hs;obtain⟨_,hp⟩:=hr;dsimp only at hp;have hp1:∀o,bE (w.alloc o).heap.size (w.alloc o) a l:=λo=>(hp.below (ay w o) (Nat.le_refl _)).mono (by simp);have hp2:∀o1 o2,bE ((w.alloc o1).alloc o2).heap.size ((w.alloc o1).alloc o2) a l:=λo1 o2=>((hp1 o1).below (ay _ o2) (Nat.le_refl _)).mono (by simp);have hp3:∀o1 o2 o3,bE (((w.alloc o1).alloc o2).alloc o3).heap.size (((w.alloc o1).alloc o2).alloc o3) a l:=λo1 o2 o3=>((hp2 o1 o2).below (ay _ o3) (Nat.le_refl _)).mono (by simp);have HB:=Hx hb;have HS:=Hx hs;clear hb hs hp hp1 hp2;go_enter Tryz.func162,Tryz.ntmps162
 go_wp2_with fail;refine(zI l a cap _ (by omega) (hp3 _ _ _)).mono ?_;rintro e w1 ⟨v1,rfl,own1,b1⟩;obtain⟨hc,hf⟩:=dr b1
 have cw:w1.cell? ⟨w.heap.size+1,0,none⟩=some (.int .i64 who):=by have:=(b1.block (w.heap.size+1) (by simp)).trans (aO w _ _ _).2.1;simp[World.cell?,this]
 go_wp2_with fail;refine(pF l v1 _ who (w.heap.size+1) 0 w1 (by unfold maxLen; omega) own1 cw (by simp) (b1.size)).mono ?_;rintro e w2 ⟨v2,rfl,own2,h2⟩;have b2:=b1.trans h2;clear hc hf own1;obtain⟨hc,hf⟩:=dr b2;have b02:Below w.heap.size w w2:=aT (aT (aT b2 (by simp)) (by simp)) (by simp);obtain⟨a2,c2,rfl,pr2,_⟩:=own2.shape;have hdl:=jb who l;by_cases hk:0<key
 .have JW:aZ l who key=ins who key (without who l):=by unfold aZ; rw[if_pos hk]
  have HWL:=Hx JW;clear JW;have Ie:=Hx own2;have Np:∀r∈without who l,0<=r.1/\r.1<=1000:=λr NF=>HB.out r ((List.mem_filter.1 NF).1);have hss:(without who l).Pairwise (λa b=>a.1<b.1):=HS.out.sublist List.filter_sublist;have Oq:=Hx Np;have HSS:=Hx hss;clear Np hss;go_wp2_with fail;refine(qf (without who l) a2 c2 who w2 (by omega) pr2 hw Oq.out HSS.out).mono ?_;rintro e w3 ⟨i,f,rfl,hi,q1,q2,h3⟩;have hins:bf (without who l) i (who,key)=ins who key (without who l):=lL who key _ i hi q1 q2;have HINS:=Hx hins;clear hins q1 q2;have b3:=b2.trans (h3.mono b2.size);clear hc hf;obtain⟨hc,hf⟩:=dr b3;go_wp2_with fail;refine(wj (without who l) a2 c2 _ i who key _ w3 (by omega) hi (Ie.out.below h3) b3.size).mono ?_;rintro e w4 ⟨v4,rfl,own4,h4⟩
  have b4:=b3.trans ((ay w3 _).mono b3.size) |>.trans h4
  clear hc hf;obtain⟨hc,hf⟩:=dr b4;rw[HINS.out]at own4;have hsz4:=b4.size;obtain⟨a4,c4,rfl,pr4,_⟩:=own4.shape;obtain⟨⟨e0,e1,e2,e3,e4⟩,f0,f1,f2,f3,f4⟩:=bP b4 (b:=w.heap.size) (by simp; omega) (aO w _ _ _).1;obtain⟨⟨g0,g1,g2,g3,g4⟩,k0,k1,k2,k3,k4⟩:=bP b4 (b:=w.heap.size+1+1) (by simp) (aO w _ _ _).2.2;clear hc hf;go_wp2;rw[HWL.out];refine bodyPost_ret (v:=dh ⟨g,ins who key (without who l),t,h,st⟩ a4 c4) (by simp[results,Tryz.results162,go_sem,g0,g1,g2,g3,g4]) rfl ⟨a4,c4,rfl,⟨?_,?_⟩,?_,?_⟩
  .show(ins who key (without who l)).length<=maxLen; rw[sl]; unfold maxLen; omega
  .have lo:=own4.lo;simp only[World.size_alloc]at lo
   have hn:∀q:Nat,q<w.heap.size+1+1+1->∀b o,a4=some ⟨b,o,none⟩->b≠q:=λq hq b o e=>by have:=lo b o e; omega
   refine(?_:bE w4.heap.size _ _ _).mono (by simp[World.setCell])
   iterate 6 (with_reducible refine bE.setCell ?_ (hn _ (by dsimp only; omega)) _)
   exact pr4
  .exact((((((aT (aT (aT b4 (by simp)) (by simp)) (by simp)).setCell (Nat.le_refl _) _).setCell (by show w.heap.size<=w.heap.size+1+1; omega) _).setCell (by show w.heap.size<=w.heap.size+1+1; omega) _).setCell (by show w.heap.size<=w.heap.size+1+1; omega) _).setCell (by show w.heap.size<=w.heap.size+1+1; omega) _).setCell (by show w.heap.size<=w.heap.size+1+1; omega) _
  .have lo:=own4.lo;simp only[World.size_alloc]at lo;intro b o e;have:=lo b o e;omega
 .have JW:aZ l who key=without who l:=by unfold aZ; rw[if_neg hk]
  have HWL:=Hx JW;clear JW;obtain⟨⟨e0,e1,e2,e3,e4⟩,f0,f1,f2,f3,f4⟩:=bP b2 (b:=w.heap.size) (by simp; omega) (aO w _ _ _).1;obtain⟨⟨g0,g1,g2,g3,g4⟩,k0,k1,k2,k3,k4⟩:=bP b2 (b:=w.heap.size+1+1) (by simp) (aO w _ _ _).2.2;clear hc hf;go_wp2;rw[HWL.out];refine bodyPost_ret (v:=dh ⟨g,without who l,t,h,st⟩ a2 c2) (by simp[results,Tryz.results162,go_sem,g0,g1,g2,g3,g4]) rfl ⟨a2,c2,rfl,⟨?_,?_⟩,?_,?_⟩
  .show(without who l).length<=maxLen; unfold maxLen; omega
  .have lo:=own2.lo;simp only[World.size_alloc]at lo
   have hn:∀q:Nat,q<w.heap.size+1+1+1->∀b o,a2=some ⟨b,o,none⟩->b≠q:=λq hq b o e=>by have:=lo b o e; omega
   refine(?_:bE w2.heap.size _ _ _).mono (by simp[World.setCell])
   iterate 6 (with_reducible refine bE.setCell ?_ (hn _ (by dsimp only; omega)) _)
   exact pr2
  .exact((((((aT (aT (aT b2 (by simp)) (by simp)) (by simp)).setCell (Nat.le_refl _) _).setCell (by show w.heap.size<=w.heap.size+1+1; omega) _).setCell (by show w.heap.size<=w.heap.size+1+1; omega) _).setCell (by show w.heap.size<=w.heap.size+1+1; omega) _).setCell (by show w.heap.size<=w.heap.size+1+1; omega) _).setCell (by show w.heap.size<=w.heap.size+1+1; omega) _
  .have lo:=own2.lo;simp only[World.size_alloc]at lo;intro b o e;have:=lo b o e;omega
theorem nt(l m:List Int)(a b:Option Addr)(c d:Nat)(w:World)(hl:l.length<=maxLen)(hm:m.length<=maxLen)(ha:Ints w.heap.size w a l)(hb:Ints w.heap.size w b m) : Calls Tryz.prog 30 #[.slice a l.length c,.slice b m.length d] w λe w'=>e=.returned (.bool (decide (l=m)))/\Below w.heap.size w w':=by
 unfold maxLen at hl hm
 rcases (by omega:l.length=m.length\/l.length≠m.length) with hlen | hlen
 .have LY:((l.length:Int) != (m.length:Int))=false:=by simp[hlen]
  have Jp:=Hx hlen;clear hlen;go_enter Tryz.func30,Tryz.ntmps30
  go_wp2;go_loopw [5] (λi wr=>∃k:Nat,k<=l.length/\i=.int .i64 k/\(∀j (h:j<l.length) (h':j<m.length),j<k->l[j]=m[j])/\Below w.heap.size w wr) (λi _=>l.length - (intOf i).toNat)
  case atStart=>exact⟨0,by omega,rfl,λj _ _ h=>absurd h (by omega),Below.refl _ _⟩
  case round =>
   obtain⟨k,hk,rfl,hK,Ir⟩:=hrel;have HK:=Hx hK;clear hK;by_cases lB:k<l.length
   .have MU:k<m.length:=by have:=Jp.out; omega
    obtain⟨b1,o1,rfl,Ls,h1⟩:=ha k lB;obtain⟨b2,o2,rfl,Nh,h2⟩:=hb k MU;have c1:=(Ir.cell (p:=⟨b1,o1+k,none⟩) Ls).trans h1;have c2:=(Ir.cell (p:=⟨b2,o2+k,none⟩) Nh).trans h2;clear ha hb h1 h2
    rcases (by omega:l[k]=m[k]\/l[k]≠m[k]) with he | he
    .have J9:(l[k] != m[k])=false:=by simp[he]
     have hn:∀j (h:j<l.length) (h':j<m.length),j<k+1->l[j]=m[j]:=by
      intro j h h' hj
      rcases (by omega:j<k\/j=k) with h3 | h3
      .exact HK.out j h h' h3
      .subst h3; exact he
     have HN:=Hx hn;clear hn he;go_wp2;go_quiet (fail)
     go_wp2;go_roundw
     case rel=>exact⟨k+1,by omega,by go_num,HN.out,below_drewN Ir _⟩
     case measure=>simp[intOf]; omega
    .have J9:(l[k] != m[k])=true:=by simp[he]
     have Ik:decide (l=m)=false:=by rw[decide_eq_false_iff_not];intro e;subst e;exact he rfl
     have HNE:=Hx Ik;clear Ik he;go_wp2;go_quiet (fail)
     go_wp2;go_ret;exact⟨aA HNE.out.symm,below_drewN Ir _⟩
   .have he:decide (l=m)=true:=by
     rw[decide_eq_true_iff];exact List.ext_getElem Jp.out (λj h h'=>HK.out j h h' (by omega))
    have HE:=Hx he;clear he;go_wp2;go_ret;exact⟨aA HE.out.symm,Ir⟩
 .have LY:((l.length:Int) != (m.length:Int))=true:=by simp; omega
  have Ik:decide (l=m)=false:=by rw[decide_eq_false_iff_not];intro e;exact hlen (by rw[e])
  have HNE:=Hx Ik;clear Ik hlen;go_enter Tryz.func30,Tryz.ntmps30
  go_wp2;go_ret;exact⟨aA HNE.out.symm,Below.refl _ _⟩
