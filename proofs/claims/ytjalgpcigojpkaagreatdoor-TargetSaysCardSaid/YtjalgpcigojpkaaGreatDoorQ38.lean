import Derived.Test.YtjalgpcigojpkaaGreatDoorQ37
import Derived.Sort.OwnSortedInts
import Derived.Test.YtjalgpcigojpkaaGreatDoorTie
import Derived.Stop.LaidErr
set_option maxRecDepth 99999
set_option maxHeartbeats 99999999
namespace Go.Proofs.YtjalgpcigojpkaaGreatDoor
section
open List (getElem_toArray getElem_cons_zero getElem_cons_succ setIfInBounds_toArray set_cons_zero set_cons_succ)
open Go.RowKit Go.Sort Go.ChangeMaps
def sj (e:MapEntry):Int:=match e.key with | .int _ x=>x | _=>0
theorem uk{l:List MapEntry}(hn:(l.map (·.born)).Nodup){e:MapEntry}(he:e∈l):l.Perm (e :: l.filter λx=>x.born != e.born):=by
 induction l with
 | nil=>cases he
 | cons x l ih =>
  simp only[List.map_cons,List.nodup_cons]at hn
  rcases List.mem_cons.1 he with rfl | h
  .have:(e :: l).filter (λx=>x.born != e.born)=l:=by
    rw[List.filter_cons,if_neg (by simp),List.filter_eq_self.2];intro a ha;simp only[bne_iff_ne,ne_eq];intro q;exact hn.1 (q▸List.mem_map_of_mem ha)
   rw[this]
  .have hx:x.born≠e.born:=λq=>hn.1 (q▸List.mem_map_of_mem h);rw[List.filter_cons,if_pos (by simpa using hx)];exact(List.Perm.cons x (ih hn.2 h)).trans (List.Perm.swap _ _ _)
theorem yT{es:Array MapEntry}(hn:(es.toList.map (·.born)).Nodup){seen:Array Nat}{e:MapEntry}(he:e∈(leftOf es seen).toList):(leftOf es seen).toList.Perm (e :: (leftOf es (seen.push e.born)).toList):=by
 have hs:((leftOf es seen).toList.map (·.born)).Nodup:=by unfold leftOf;rw[Array.toList_filter];exact hn.sublist (List.filter_sublist.map _)
 have e2:(leftOf es (seen.push e.born)).toList=(leftOf es seen).toList.filter λx=>x.born != e.born:=by
  unfold leftOf;rw[Array.toList_filter,Array.toList_filter,List.filter_filter];congr 1
  funext x
  rw[contains_push]
  cases seen.contains x.born<;>simp[bne,Bool.beq_eq_decide_eq]
 rw[e2];exact uk hs he
theorem qT{w:World}{r:Nat}{a:Option Nat}{b c:Nat}{s:Array Nat}(h:w.heap[r]?=some (.mapIter a b s c)):w.iterSeen r=s:=by unfold World.iterSeen;rw[h]
theorem yo{l ks:List Int}(h:l.Pairwise (·<·))(p:ks.Perm l):ks.mergeSort (λx y=>decide (x<=y))=l:=by have s:=List.pairwise_mergeSort (le:=λx y:Int=>decide (x<=y)) (λa b c=>by simp; omega) (λa b=>by simp; omega) ks;refine List.Perm.eq_of_pairwise (le:=λx y:Int=>x<=y) (λa b _ _ h1 h2=>by omega) (s.imp fun {a b} q=>by simpa using q) (h.imp fun {a b} q=>by omega) ((List.mergeSort_perm ks _).trans p)
section
variable {P:Program} {ops:Array Oper} {rest:List Oper} {o:Oper} {a:Act} {w:World} {Q:Exit->Act->World->Prop}
theorem qI(hg:o.guard=none)(it:Operand)(Jt:o.op=Op.next it false)(r b cl:Nat)(seen:Array Nat)(es:Array MapEntry)(hit:a.eval it=.pointer (some ⟨r,0,none⟩))(hr:w.heap[r]?=some (.mapIter (some b) cl seen cl))(hb:w.heap[b]?=some (.map es cl))(ho:∀x∈es.toList,x.born<cl)(hz:(leftOf es seen).size=0)(h:wpList P ops Q rest (a.put o.dst (.tuple #[.bool false])) w):wpList P ops Q (o :: rest) a w:=by
 refine wpList_plain hg λK' Is=>?_
 have II:(Instr.next (.pointer (some ⟨r,0,none⟩)) false o.type).run P w=.ok (.tuple #[.bool false]) w:=by
  rcases run_next_at (P:=P) w o.type r b cl cl seen es cl hr hb ho (Nat.le_refl _) with h0 | ⟨e,he,-⟩
  .exact h0.2
  .have:0<(leftOf es seen).toList.length:=List.length_pos_of_mem he;simp only[Array.length_toList]at this;omega
 unfold Oper.wp;simp[execOp,Jt,hit,II,Result.andThen];exact Is _ _ h
theorem yI(hg:o.guard=none)(it:Operand)(Jt:o.op=Op.next it false)(r b cl:Nat)(seen:Array Nat)(es:Array MapEntry)(hit:a.eval it=.pointer (some ⟨r,0,none⟩))(hr:w.heap[r]?=some (.mapIter (some b) cl seen cl))(hb:w.heap[b]?=some (.map es cl))(ho:∀x∈es.toList,x.born<cl)(hz:(leftOf es seen).size≠0)(h:∀e∈(leftOf es seen).toList,∀w2:World,w2.heap[r]?=some (.mapIter (some b) cl (seen.push e.born) cl)->ac (·=r) w w2->w2.heap.size=w.heap.size->wpList P ops Q rest (a.put o.dst (.tuple #[.bool true,e.key,e.val])) w2):wpList P ops Q (o :: rest) a w:=by
 refine wpList_plain hg λK' Is=>?_
 rcases run_next_at (P:=P) w o.type r b cl cl seen es cl hr hb ho (Nat.le_refl _) with h0 | ⟨e,he,w1,pX,II⟩
 .exact absurd h0.1 hz
 have Jd:w1.heap[r]?=some (.mapIter (some b) cl seen cl):=by rcases pX with rfl | rfl<;>exact hr
 have k1:ac (·=r) w w1:=by
  rcases pX with rfl | rfl
  .exact ac.refl _ _
  .exact(ac.refl _ _).drew
 have z1:w1.heap.size=w.heap.size:=by rcases pX with rfl | rfl<;>rfl
 have k2:ac (·=r) w1 (setBlock w1 r (.mapIter (some b) cl (seen.push e.born) cl)):=⟨rfl,rfl,rfl,by simp[setBlock],λk hk _=>nH (w:=w1) hk⟩
 unfold Oper.wp;simp[execOp,Jt,hit,II,Result.andThen];exact Is _ _ (h e he _ (dV (w:=w1) Jd) (k1.trans k2) (by simpa[setBlock] using z1))
theorem zp(hg:o.guard=none)(it:Operand)(Jt:o.op=Op.entry it)(r b cl:Nat)(seen:Array Nat)(es:Array MapEntry)(e:MapEntry)(hit:a.eval it=.pointer (some ⟨r,0,none⟩))(hr:w.heap[r]?=some (.mapIter (some b) cl (seen.push e.born) cl))(hb:w.heap[b]?=some (.map es cl))(he:e∈es.toList)(hn:(es.toList.map (·.born)).Nodup)(x:Value)(hx:e.key=x)(h:wpList P ops Q rest (a.put o.dst (.tuple #[x,e.val])) w):wpList P ops Q (o :: rest) a w:=by
 refine wpList_plain hg λK' Is=>?_;subst hx;have II:=run_entry_at (P:=P) w r b cl seen es cl e hr hb he hn;unfold Oper.wp;simp[execOp,Jt,hit,II,Result.andThen];exact Is _ _ h
end
def Hm (w:World)(W cl:Nat)(es:Array MapEntry)(v:Value)(wr:World):Prop :=
 ∃seen ks,wr.heap[w.heap.size]?=some (.mapIter (some W) cl seen cl)/\bh (w.heap.size+1) wr v ks/\Below w.heap.size w wr/\(ks ++ (leftOf es seen).toList.map sj).Perm (es.toList.map sj)
section
variable (w0 w:World) (n D T:Nat) (t:Tg) (Y:Nat->Prop)
theorem nV:∀(l:List Wt) (r:List Nat),l.length=r.length->(bY l r).map (·.1)=l.map (·.tag)
 | [],[],_=>rfl
 | x :: l,y :: r,h=>by
  simp only[bY,List.map_cons];rw[nV l r (by simpa using h)]
 | [],_ :: _,h=>by simp at h
 | _ :: _,[],h=>by simp at h
theorem rD(h:bR w0 n D T t Y w)(hl:t.wait.length<=6)(ws:t.wait.Pairwise λa b=>a.tag<b.tag) :
  Calls Tryz.prog 31 #[.pointer (some ⟨T,0,none⟩)] w λe w'=>∃v,e=.returned v/\bh w.heap.size w' v (t.wait.map (·.tag))/\Below w.heap.size w w':=by
 obtain⟨i0,Ni,L2,hi2,Js⟩:=info_parts Tryz.infoInt;obtain⟨X,m,ki,tb,lo,hy⟩:=h;have c0:=(aG tb.blk tb.ok).1.2.2.2.2.2.2.2.1
 have hT:=(Gl tb.blk)
 obtain⟨es,cl,hb,he,Nl⟩:=tb.wait
 have TAG:=Hs (es.toList.map sj=t.wait.map (·.tag)) (by
  have:=congrArg (List.map λp:Value × Value=>match p.1 with | .int _ x=>x | _=>(0:Int)) he;rw[List.map_map,List.map_map]at this;rw[<-nV t.wait m.hm tb.wl]
  exact this)
 have KEY:=Hs (∀e∈es.toList,e.key=.int .i64 (sj e)) (λe hm=>by
  have h1:(e.key,e.val)∈es.toList.map (λe=>(e.key,e.val)):=List.mem_map_of_mem (f:=λe:MapEntry=>(e.key,e.val)) hm;rw[he]at h1;obtain⟨p,-,hp⟩:=List.mem_map.1 h1;have hp:Value.int .i64 p.1=e.key:=congrArg Prod.fst hp;unfold sj
  rw[<-hp])
 have ND:=Hs ((es.toList.map λe:MapEntry=>e.born).Nodup) (Nl.1.imp fun {a b} q=>by omega);have BO:=Hs (∀x∈es.toList,x.born<cl) (λx hx=>Nl.2 _ (List.mem_map_of_mem (f:=λe:MapEntry=>e.born) hx))
 have LEN:=Hs (es.toList.length<=6) (by
  have:=congrArg List.length TAG.out;rw[List.length_map,List.length_map]at this
  omega)
 have WS:=Hs ((t.wait.map (·.tag)).Pairwise (·<·)) (List.pairwise_map.2 ws);have HB:=Hx hb
 have lB:=(Gl hb)
 obtain⟨w1,pX⟩:=Nn (w.alloc (.mapIter (some m.W) cl #[] cl));have B1:=Hs (Below w.heap.size w w1) (pX▸ay w _);have R1:=Hs (w1.heap[w.heap.size]?=some (.mapIter (some m.W) cl #[] cl)) (pX▸heap_alloc_new w _);have LT:=Hx lB;clear ki tb lo hy hb he Nl lB hl ws;go_enter Tryz.func31,Tryz.ntmps31
 go_upto_region 3 with (refine range_any rfl _ _ rfl _ _ Tryz.underlying103 m.W es cl rfl HB.out ?_);rw[<-pX];clear pX c0 hT;simp only[Act.put,setIfInBounds_toArray,set_cons_zero,set_cons_succ];go_loopw [3,4] (λv _ wr=>Hm w m.W cl es v wr) (λ_ _ wr=>(leftOf es (wr.iterSeen w.heap.size)).size)
 case atStart=>exact⟨#[],[],R1.out,⟨rfl,.inl ⟨rfl,rfl⟩⟩,B1.out,by
  rw[show leftOf es #[]=es from by unfold leftOf; exact Array.filter_eq_self.2 λ_ _=>by simp]
  exact List.Perm.refl _⟩
 case round =>
  obtain⟨seen,ks,hr,ec,Ir,hp⟩:=hrel;have HR:=Hx hr;have Ie:=Hx ec;have Jj:=Hx Ir;have HP:=Hx hp;have MB:=Hs (wr.heap[m.W]?=some (.map es cl)) ((Ir.block _ LT.out).trans HB.out)
  have ksl:ks.length<=6:=by have h1:=hp.length_eq;simp only[List.length_append,List.length_map]at h1;have:=LEN.out;omega
  have WZ:=Hx (Gl hr);clear hr ec Ir hp;by_cases hz:(leftOf es seen).size=0
  .have HZ:=Hx hz
   have PT:=Hs (ks.Perm (t.wait.map (·.tag))) (by
    have:=HP.out;rw[Array.eq_empty_of_size_eq_zero hz]at this;rw[<-TAG.out]
    simpa using this)
   clear hz;by_cases h0:ks=[]
   .subst h0;obtain⟨a',c',rfl,hI⟩:=Ie.out.shape;clear hI;have TN:=Hs (t.wait.map (·.tag)=[]) PT.out.symm.eq_nil;go_wp2_with (refine qI rfl _ rfl _ _ cl seen es rfl HR.out MB.out BO.out HZ.out ?_);refine(Tryz.slices_Sort_int_none a' c' _).mono ?_;rintro e w2 ⟨rfl,rfl⟩;go_wp2;go_ret;exact⟨_,rfl,by rw[TN.out]; exact⟨Ie.out.1,Ie.out.2.elim .inl λ⟨g,cap,cur,e,hg,q⟩=>.inr ⟨g,cap,cur,e,Nat.le_of_succ_le hg,q⟩⟩,Jj.out⟩
   .have hn0:ks.length≠0:=λe=>h0 (List.length_eq_zero_iff.1 e);obtain⟨hx1,hx2⟩:=Ie.out
    rcases hx2 with⟨_,hn⟩ | ⟨gb,cp,cur,rfl,hg,hh,hc,hm,hsz,ht⟩
    .exact absurd hn hn0
    have C1:=Hx (Tryz.slices_Sort_int gb 0 cp ks wr (holds_of_blockI hh (by rw[Nat.mul_one]at ht; exact ht)) (Gl hh) (by omega));rw[yo WS.out PT.out]at C1;have TL:=Hs ((t.wait.map (·.tag)).length=ks.length) PT.out.length_eq.symm;have HH:=Hx hh;have HGC:=Hx (And.intro hg (And.intro hc (And.intro hm hsz)));clear hx1 hg hh hc hm hsz ht hn0 h0;go_wp2_with (refine qI rfl _ rfl _ _ cl seen es rfl HR.out MB.out BO.out HZ.out ?_);refine C1.out.mono ?_;rintro e w2 ⟨rfl,n1,os1,IQ⟩
    have O2:=Hs (bh w.heap.size w2 (.slice (some ⟨gb,0,none⟩) ks.length cp) (t.wait.map (·.tag))) (by
     have:=ownsRow_sortedI (w:=wr) (base:=w.heap.size) (os:=os1) (n:=n1) TL.out (Nat.le_of_succ_le HGC.out.1) HH.out HGC.out.2.1 HGC.out.2.2.1 HGC.out.2.2.2;unfold bh;rw[IQ,TL.out]
     exact this)
    have G2:=Hs (Below w.heap.size w w2) (Jj.out.grown (by rw[IQ]; exact grownBy_sortedI (t.wait.map (·.tag)).toArray) Jj.out.size (λk hk=>by cases hk; exact Nat.le_of_succ_le HGC.out.1));clear IQ;go_wp2;go_ret;exact⟨_,rfl,O2.out,G2.out⟩
  .have HZ:=Hx hz;clear hz;go_upto_region 4 with (refine yI rfl _ rfl _ _ cl seen es rfl HR.out MB.out BO.out HZ.out ?_; intro e he w2 JZ k2 z2);obtain⟨x,hx⟩:=Nm (sj e);have EM:=Hx (mem_left he).1;have KX:=Hs (e.key=.int .i64 x) (hx▸KEY.out e (mem_left he).1);have WL:=Hs (w.heap.size<w2.heap.size) ((Gl JZ));have R2:=Hx JZ;have M2:=Hs (w2.heap[m.W]?=some (.map es cl)) ((k2.block _ (λe=>by have:=LT.out; omega) (Gl MB.out)).trans MB.out)
   have O2:=Hs (bh (w.heap.size+1) w2 u3 ks) (aV Ie.out λc q=>by
    have:=World.ownsRow.lt Ie.out c q
    exact k2.block c (λe=>by omega) this.2)
   have B2:=Hs (Below w.heap.size w w2) (Jj.out.trans (k2.below Jj.out.size λk e=>Nat.le_of_eq e.symm))
   have NP:=Hs (((ks ++ [x]) ++ (leftOf es (seen.push e.born)).toList.map sj).Perm (es.toList.map sj)) (by
    refine List.Perm.trans ?_ HP.out;rw[List.append_assoc,<-hx]
    exact((yT ND.out he).map sj).symm.append_left ks)
   have SH:=Hx (left_shrinks es seen e he);have IS:=Hx (qT HR.out);clear he JZ k2 z2 hx;go_wp2_with (first|(refine zp rfl _ rfl _ _ cl seen es e rfl R2.out M2.out EM.out ND.out _ KX.out ?_)|(at_builtin; refine wpList_append_own _ rfl _ _ 71 rfl (w.heap.size+1) 3 i0 (.int .i64 0) 1 8 Tryz.underlying71 Ni L2 hi2 Js rfl (by decide) _ _ _ rfl (World.ownsRow.alloc O2.out _) ⟨w2.heap.size,0,none⟩ 1 1 [.int .i64 x] rfl rfl (World.news_of_block (heap_alloc_new _ _)) (jr [x]) ?c3 ?c4 ?c5 ?_))
   case c3=>unfold maxLen; omega
   case c4=>omega
   case c5=>have:=WL.out; simp; omega
   intro v' w4 hown4 hg4 _;have BK:=World.ownsRow.lt O2.out
   have FIN:=Hs (Hm w m.W cl es v' w4/\(leftOf es (w4.iterSeen w.heap.size)).size<(leftOf es (wr.iterSeen w.heap.size)).size) (by
    have r4:w4.heap[w.heap.size]?=some (.mapIter (some m.W) cl (seen.push e.born) cl):=(hg4.block w.heap.size (by have:=WL.out; simp; omega) (λq=>by have:=(BK _ q.symm).1; omega)).trans ((Below.heap_alloc _ _ _ WL.out).trans R2.out);refine⟨⟨_,ks ++ [x],r4,by simpa[bh] using hown4,(B2.out.alloc B2.out.size _).grown hg4 (by have:=B2.out.size; simp; omega) (λk hk=>by have:=(BK k hk).1; omega),NP.out⟩,?_⟩;rw[qT r4,IS.out]
    exact SH.out)
   clear hown4 hg4 BK;go_wp2;go_roundw
   case rel=>exact FIN.out.1
   case measure=>exact FIN.out.2
end
end
section
open Go.RowKit Go.Sort
theorem rz{P:Program}{ops:Array Oper}{S:World->Prop}{op:Oper}{a:Act}(hw:Region.wanted op (yielded ops a.tmps)=true)(bo:BinOp)(t u:TypeId)(x y:Operand)(ho:op.op=.binOp bo t x y u)(xs ys:Array Value)(hx:a.eval x=.agg xs)(hy:a.eval y=.agg ys)(hm:P.eqGuardType P.depth t=false)(v:Value)(hb:∀w,(binOp bo t (.agg xs) (.agg ys)).run P w=.ok v w):YieldsIf P ops S op v a:=by
 refine .inl ⟨hw,λw _=>?_⟩;unfold execOp;simp only[ho,hx,hy,Sem.run_bind,Sem.run_pure,Result.andThen_ok,run_eqGuard_agg _ bo t x y xs ys hm,hb]
instance:DecidableEq Rp:=λa b=>decidable_of_iff (a.floor=b.floor/\a.cells=b.cells) ⟨Rp.ext',λh=>by rw[h]; exact⟨rfl,rfl⟩⟩
theorem Gp.ext2{g h:Gp}(e:g.r=h.r/\g.u=h.u):g=h:=by cases g; cases h; simp_all
instance:DecidableEq Gp:=λa b=>decidable_of_iff (a.r=b.r/\a.u=b.u) ⟨Gp.ext2,λh=>by rw[h]; exact⟨rfl,rfl⟩⟩
theorem mn:Tryz.prog.underlying 124=some (.struct (Tryz.prog.fieldsOf 124))∧Tryz.prog.stoodInHeld 124=false ∧ ((Tryz.prog.fieldsOf 124).toList.map fun f => (f.name, f.type, f.offset)) = [("To", 3, 0), ("At", 3, 1), ("Cell", 62, 2), ("Tag", 3, 5)] := by
 refine⟨?_,?_,?_⟩<;>kernel_rfl
theorem FP:Tryz.prog.eqGuardType Tryz.prog.depth 124=false:=by kernel_rfl
def msA (m:Ms):Array Value:=#[.int .i64 m.tt,.int .i64 m.at',.int .i64 m.c.e,.int .i64 m.c.n,.string m.c.d,.int .i64 m.tag]
theorem Ft(m:Ms)(w:World):(binOp .neq 124 (.agg (msA m)) (.agg (msA m))).run Tryz.prog w=.ok (.bool false) w:=by
 have:=rh 9999 124 (msA m) (msA m) w mn.1 mn.2.1 _ mn.2.2 (λ_=>true) ?_
 .rw[run_neq_struct,this]; rfl
 .intro s hs;simp only[List.mem_cons,List.mem_nil_iff,or_false]at hs
  have hi:∀(x:Int),(Op.equalIn 9999 3 (.int .i64 x) (.int .i64 x)).run Tryz.prog w=.ok true w:=λx=>by rw[run_equalIn_int w 9998 _ _ _ _ _ jC.1]; simp
  rcases hs with rfl | rfl | rfl | rfl
  .exact⟨by decide,_,_,run_part_plain w cM.1 rfl,run_part_plain w cM.1 rfl,hi _⟩
  .exact⟨by decide,_,_,run_part_plain w cM.1 rfl,run_part_plain w cM.1 rfl,hi _⟩
  .refine⟨by decide,_,_,jm w au.1 rfl au.2,jm w au.1 rfl au.2,?_⟩;have e:(msA m).extract 2 (2+3)=#[.int .i64 m.c.e,.int .i64 m.c.n,.string m.c.d]:=rfl;rw[e];exact(xM 9997 m.c m.c w).trans (by simp)
  .exact⟨by decide,_,_,run_part_plain w cM.1 rfl,run_part_plain w cM.1 rfl,hi _⟩
theorem uq{B:Nat}{w:World}{l:List Ms}{a:Option Addr}{cap:Nat}(hr:dC B w (.slice a l.length cap) l){k:Nat}(lB:k<l.length):∃g,a=some ⟨g,0,none⟩/\g<w.heap.size/\w.cell? ⟨g,k*6,none⟩=some (.int .i64 l[k].tt)/\w.cell? ⟨g,k*6+1,none⟩=some (.int .i64 l[k].at')/\w.cell? ⟨g,k*6+2,none⟩=some (.int .i64 l[k].c.e)/\w.cell? ⟨g,k*6+3,none⟩=some (.int .i64 l[k].c.n)/\w.cell? ⟨g,k*6+4,none⟩=some (.string l[k].c.d)/\w.cell? ⟨g,k*6+5,none⟩=some (.int .i64 l[k].tag):=by
 obtain⟨-,h2 | ⟨g,cap',cur,e1,e2,e3,-⟩⟩:=id hr
 .exact absurd h2.2 (by omega)
 obtain⟨rfl,rfl⟩:a=some ⟨g,0,none⟩/\cap=cap':=by simpa using e1
 have hg:=(Gl e3)
 have c:∀j v,j<6->l[k].row[j]?=some v->w.cell? ⟨g,k*6+j,none⟩=some v:=λj v hj hv=>by
  have:=dC.cells hr (k*6+j) v (by rw[vP lB j hj,hv])
  rwa [Addr.add_lit,Nat.zero_add]at this
 exact⟨g,rfl,hg,c 0 _ (by omega) rfl,c 1 _ (by omega) rfl,c 2 _ (by omega) rfl,c 3 _ (by omega) rfl,c 4 _ (by omega) rfl,c 5 _ (by omega) rfl⟩
theorem dC.shape{B:Nat}{w:World}{v:Value}{l:List Ms}(h:dC B w v l):∃a cap,v=.slice a l.length cap:=by
 obtain⟨-,h2 | ⟨g,cap,cur,e1,-⟩⟩:=h
 .exact⟨none,0,by rw[h2.1,h2.2]⟩
 .exact⟨_,_,e1⟩
theorem pS(B B':Nat)(l:List Ms)(a a':Option Addr)(c c':Nat)(w:World)(hl:l.length<=1000)(h1:dC B w (.slice a l.length c) l)(h2:dC B' w (.slice a' l.length c') l) : Calls Tryz.prog 28 #[.slice a l.length c,.slice a' l.length c'] w λe w'=>e=.returned (.bool true)/\Below w.heap.size w w':=by
 have H1:=Hx h1;have H2:=Hx h2;clear h1 h2;go_enter Tryz.func28,Tryz.ntmps28
 go_wp2;go_loopw [5] (λi wr=>∃k:Nat,k<=l.length/\i=.int .i64 k/\Below w.heap.size w wr) (λi _=>l.length - (intOf i).toNat)
 case atStart=>exact⟨0,by omega,rfl,Below.refl _ _⟩
 case round =>
  obtain⟨k,hk,rfl,Ir⟩:=hrel;have HB:=Hx Ir;clear Ir;by_cases lB:k<l.length
  .obtain⟨g,rfl,hg,a0,a1,a2,a3,a4,a5⟩:=uq H1.out lB;obtain⟨g',rfl,Nj,b0,b1,b2,b3,b4,b5⟩:=uq H2.out lB;obtain⟨m,hm⟩:=Nm (l[k]);rw[hm]at a0 a1 a2 a3 a4 a5 b0 b1 b2 b3 b4 b5
   have CA:=Hx (λw' (b:Below wr.heap.size wr w')=>show w'.cell? ⟨g,k*6,none⟩=some (.int .i64 m.tt)/\w'.cell? ⟨g,k*6+1,none⟩=some (.int .i64 m.at')/\w'.cell? ⟨g,k*6+2,none⟩=some (.int .i64 m.c.e)/\w'.cell? ⟨g,k*6+3,none⟩=some (.int .i64 m.c.n)/\w'.cell? ⟨g,k*6+4,none⟩=some (.string m.c.d)/\w'.cell? ⟨g,k*6+5,none⟩=some (.int .i64 m.tag) from by
    have bb:Below w.heap.size w w':=HB.out.trans (b.mono HB.out.size)
    exact⟨(bb.cell (p:=⟨g,_,none⟩) hg).trans a0,(bb.cell (p:=⟨g,_,none⟩) hg).trans a1,(bb.cell (p:=⟨g,_,none⟩) hg).trans a2,(bb.cell (p:=⟨g,_,none⟩) hg).trans a3,(bb.cell (p:=⟨g,_,none⟩) hg).trans a4,(bb.cell (p:=⟨g,_,none⟩) hg).trans a5⟩)
   have CB:=Hx (λw' (b:Below wr.heap.size wr w')=>show w'.cell? ⟨g',k*6,none⟩=some (.int .i64 m.tt)/\w'.cell? ⟨g',k*6+1,none⟩=some (.int .i64 m.at')/\w'.cell? ⟨g',k*6+2,none⟩=some (.int .i64 m.c.e)/\w'.cell? ⟨g',k*6+3,none⟩=some (.int .i64 m.c.n)/\w'.cell? ⟨g',k*6+4,none⟩=some (.string m.c.d)/\w'.cell? ⟨g',k*6+5,none⟩=some (.int .i64 m.tag) from by
    have bb:Below w.heap.size w w':=HB.out.trans (b.mono HB.out.size)
    exact⟨(bb.cell (p:=⟨g',_,none⟩) Nj).trans b0,(bb.cell (p:=⟨g',_,none⟩) Nj).trans b1,(bb.cell (p:=⟨g',_,none⟩) Nj).trans b2,(bb.cell (p:=⟨g',_,none⟩) Nj).trans b3,(bb.cell (p:=⟨g',_,none⟩) Nj).trans b4,(bb.cell (p:=⟨g',_,none⟩) Nj).trans b5⟩)
   clear hm a0 a1 a2 a3 a4 a5 b0 b1 b2 b3 b4 b5 hg Nj;go_upto_region 6 with fail;go_cut [25] (λv wx=>v=.bool false/\Below wr.heap.size wr wx)
   case first =>
    obtain⟨S,hS⟩:∃S:World->Prop,S=λw'=>Below wr.heap.size wr w':=⟨_,rfl⟩
    have S3:∀w',Below wr.heap.size wr w'->S w':=λw' h=>by rw[hS]; exact h
    have S4:∀w',S w'->Below wr.heap.size wr w':=λw' h=>by rw[hS]at h; exact h
    clear hS;refine wp_region_held_drew (S:=S) (by kernel_rfl) (S3 _ (Below.refl _ _).drew) (λdT=>?_);obtain⟨wd,IB⟩:=Nn wr.drew;rw[<-IB]at dT ⊢;clear IB;refine wt 0 _ dT ?_;go_simp;refine wt 1 _ dT ?_;go_simp;refine wt 2 _ dT ?_;go_simp;refine wt 3 (.agg (msA m)) dT ?_ (hy:=Or.inl ⟨by rfl,λw' sT=>by obtain⟨q0,q1,q2,q3,q4,q5⟩:=CA.out w' (S4 w' sT); unfold msA; go_simp⟩);go_simp;refine wt 4 _ dT ?_;go_simp;refine wt 5 _ dT ?_;go_simp;refine wt 6 _ dT ?_;go_simp;refine wt 7 (.agg (msA m)) dT ?_ (hy:=Or.inl ⟨by rfl,λw' sT=>by obtain⟨q0,q1,q2,q3,q4,q5⟩:=CB.out w' (S4 w' sT); unfold msA; go_simp⟩);go_simp;refine wt 8 (.bool false) dT ?_ (hy:=rz (by rfl) .neq 124 _ _ _ rfl (msA m) (msA m) rfl rfl FP _ (λw=>Ft m w));go_simp;refine wpAnyH_done (by kernel_rfl) ?_ _;go_wp2_with fail;go_meet;exact⟨rfl,S4 _ dT⟩
   case rest =>
    obtain⟨wo,rfl⟩:∃wo:World,wo=wr:=⟨_,rfl⟩
    obtain⟨rfl,b4⟩:=hcut;have NA:=Hx (HB.out.trans (b4.mono HB.out.size));clear b4;go_wp2;go_roundw
    case rel=>exact⟨k+1,by omega,by go_num,NA.out⟩
    case measure=>simp[intOf]; omega
  .go_wp2;go_ret;exact⟨rfl,HB.out⟩
end
section
open Go.RowKit Go.Lib
section
variable {H:Type} {enc:TypeId × Value->H}
theorem gz{a:Assume}{C:Checked}{os:Os}{f:FuncId}{fn:Func}{s:ChangeSpec}{conds:List PathCond}{apart fresh Mc again:Bool}{X:World->Array Value->Prop}
  (hX:∀(w w':World) (args:Array Value),w.heap=w'.heap->X w args->X w' args)
  (own:ownKnob C.prog.godebug=none) (started:os.Started) (noInit:C.prog.inits.idxOf? f=none) (hfn:C.prog.funcs[f]?=some fn)
  (witness:∃(w:World) (tape:Tape) (i:Input),w.os=os/\(w.forCall tape i).Shaped C.prog/\i.vars=[]/\Input.okWide C.prog (w.forCall tape i) .any w.heap.size f i /\
   ((s.pre enc C.prog fn conds apart (w.forCall tape i).memory i.args/\X (w.forCall tape i).memory i.args)/\sizedMet enc C.prog fn (OpenSpec.ofChange s) apart (w.forCall tape i).memory i.args)/\a.holds C.prog (lone (Frame.enter C.prog f i.args .normal) [] (w.forCall tape i)))
  (contract:∀(W:World) (base:Nat) (args:Array Value) (ds gs:List (DataW H)) (before:List MemPlace),
   (∀(j:Nat) t v,fn.params[j]?=some t->args[j]?=some v->Value.okWide C.prog W .any base t v) ->
   DataW.Whole enc C.prog fn.params.toList s.vars apart W args.toList ds gs before ->
   X W args->W.ShapedOpen C.prog ->
   Calls C.prog f args W λe W'=>∃v,e=.returned v/\s.post enc C.prog fn apart fresh Mc again W args v W') :
  ReturnsInHanded a C os f .any (λw args=>(s.pre enc C.prog fn conds apart w args/\X w args)/\sizedMet enc C.prog fn (OpenSpec.ofChange s) apart w args) (s.post enc C.prog fn apart fresh Mc again):=by
 refine returnsInHanded_of_calls own started noInit witness ?_;intro w tape i _ hsh _ J0 hpre _;obtain⟨_,_,_,fn',hfn',_,_,_,_,hval⟩:=J0;have e:fn'=fn:=Option.some.inj (hfn'.symm.trans hfn);subst e;obtain⟨⟨⟨ds,gs,before,hw,_⟩,hx⟩,_⟩:=hpre;refine(contract (w.forCall tape i) w.heap.size i.args ds gs before hval (DataW.Whole.of_heap (w':=w.forCall tape i) (by rfl) hw) (hX _ _ _ (by rfl) hx) hsh).mono λe W' ⟨v,he,hp⟩=>?_;subst he;exact ChangeSpec.post_blind hp
end
theorem qU{P:Program}{n nm:String}{d:DataW Unit}{r:List (String × DataW Unit)}{W:World}{g:Nat}{ti:TypeId}{ms:Array (String × TypeId)}(h:laidMet P ((n,.iface nm d) :: r) W)(hg:P.globalNamed n=some g)(ht:(P.globals[g]?).map (·.type)=some ti)(hi:P.underlying ti=some (.interface ms)) : ∃u v,W.var? P n=some #[.iface u v]:=by
 obtain⟨ps,⟨g0,t0,cs0,f0,p0,q0,hg0,LX,MK,hd0,_,e0⟩,_,hrows⟩:=h;obtain rfl:=Option.some.inj (hg.symm.trans hg0);obtain rfl:=Option.some.inj (ht.symm.trans LX);obtain⟨_,u,v,hc,_⟩:=iface_of_trod hi hd0;refine⟨u,v,MK.trans ?_⟩;congr 1;exact Array.toList_inj.1 hc
theorem mN{P:Program}{w:World}(h:w.ShapedOpen P){g:Nat}{t:TypeId}{zero:Array Value}(hg:g<P.globals.size)(h0:((begin P (λ_ _=>0) default).world.heap[g]?).bind Obj.row?=some (zero,t)):g<w.heap.size/\∃cs,w.heap[g]?=some (.cells cs t)/\cs.size=zero.size:=by
 obtain⟨cs,hh,hs,_⟩:=h.1 g zero t hg h0;exact⟨(Gl hh),cs,hh,hs⟩
theorem yp{P:Program}{w:World}(h:w.ShapedOpen P)(g:Nat)(hg:g<P.globals.size)(h0:(((begin P (λ_ _=>0) default).world.heap[g]?).bind Obj.row?).isSome=true):g<w.heap.size:=by
 obtain⟨⟨zero,t⟩,hx⟩:=Option.isSome_iff_exists.1 h0;exact(mN h hg hx).1
theorem Ek{P:Program}{w:World}{n:String}(h:w.ShapedOpen P){g:Nat}{t:TypeId}{zero:Array Value}{k:IntKind}(hn:P.globalNamed n=some g)(hg:g<P.globals.size)
  (h0:((begin P (λ_ _=>0) default).world.heap[g]?).bind Obj.row?=some (zero,t)) (hz:zero.size=1)
  (hb:P.buildable t=true) (hc:P.cellTypes P.depth t=some [t]) (hu:P.underlying t=some (.int k)):∃m,w.var? P n=some #[.int k m]:=by
 obtain⟨m,hm⟩:=cell_of_shapedOpen_int h hg h0 hz hb hc hu;obtain⟨_,cs,hh,hs⟩:=mN h hg h0;refine⟨m,?_⟩;unfold World.var?;simp only[hn,Option.bind_some,hh];have h1:cs.size=1:=hs.trans hz
 have h2:cs[0]?=some (.int k m):=by simpa[World.cell?,hh] using hm
 congr 1;apply Array.ext
 .simp[h1]
 .intro i L2 hi2
  have:i=0:=by omega
  subst this;have:=Array.getElem?_eq_some_iff.1 h2;simp[this.2]
end
section
open Go.RowKit Go.Sort
structure Dm where
 G:Nat
 sa:Option Addr
 sc:Nat
 b:Bx
 wa:Option Addr
 wc:Nat
 fa:Option Addr
 fc:Nat
 da:Option Addr
 dc:Nat
 dl:List Int
def Wt.row(x:Wt):List Value:=[.int .i64 x.tag,.bool (decide ((0:Int)∈x.hv)),.bool (decide ((1:Int)∈x.hv)),.bool (decide ((2:Int)∈x.hv))]
def sW (l:List Wt):List Value:=l.flatMap Wt.row
abbrev eT(m:Dm)(t:Tg):Array Value:=#[.int .i64 t.k.s.gen,.slice m.sa t.k.s.regs.length m.sc,.int .i64 t.k.s.typ,.int .i64 t.k.s.holder,.bool t.k.s.stays,.int .i64 t.k.ep,.pointer (some ⟨m.G,0,none⟩),m.b.s1.v,m.b.s2.v,m.b.s3.v,m.b.s4.v,.int .i64 t.num,.int .i64 t.tag,.slice m.wa t.wait.length m.wc,.slice m.fa t.fly.length m.fc,.slice m.da m.dl.length m.dc]
def Dm.own(m:Dm)(M b:Nat):Prop:=b=M\/b=m.G\/(∃o,m.wa=some ⟨b,o,none⟩)\/(∃o,m.fa=some ⟨b,o,none⟩)\/∃o,m.da=some ⟨b,o,none⟩
def dB(X:Nat->Prop)(w:World)(a:Option Addr)(l:List (Int × Int)):Prop :=
 ∀i (h:i<l.length),∃b o,a=some ⟨b,o,none⟩/\X b/\b<w.heap.size/\w.cell? ⟨b,o+i*2,none⟩=some (.int .i64 (l[i]).1)/\w.cell? ⟨b,o+i*2+1,none⟩=some (.int .i64 (l[i]).2)
structure bO (Y:Nat->Prop) (w:World) (M:Nat) (m:Dm) (t:Tg):Prop where
 blk:w.heap[M]?=some (.cells (eT m t) 78 (0,0))
 grp:w.heap[m.G]?=some (.cells t.g.arr 97 (0,0))
 ok:t.g.ok
 len:t.k.s.regs.length<=maxLen
 str:dB (λb=>Y b/\¬ m.own M b) w m.sa t.k.s.regs
 box:∀k,ni (λb=>Y b/\¬ m.own M b) w (m.b.get k) (t.b.get k)
 wait:w.ownsRow 0 126 4 (.slice m.wa t.wait.length m.wc) t.wait.length (sW t.wait)
 fly:w.ownsRow 0 124 6 (.slice m.fa t.fly.length m.fc) t.fly.length (cq t.fly)
 done:w.ownsRow 0 3 1 (.slice m.da m.dl.length m.dc) m.dl.length (m.dl.map (Value.int .i64))
 own:∀b,m.own M b->Y b
 eq:∀x,x∈m.dl ↔ x∈t.done
 cnt:(m.dl.length:Int)+t.wait.length<=t.tag
def mH (Y:Nat->Prop)(w:World)(M:Nat)(t:Tg):Prop:=∃m,bO Y w M m t
section
variable {X Y Y' S:Nat->Prop} {w w':World} {M:Nat} {m:Dm} {t:Tg}
theorem dB.to{a:Option Addr}{l:List (Int × Int)}(h:dB X w a l)(hs:w.heap.size<=w'.heap.size)(hk:∀b,X b->b<w.heap.size->w'.heap[b]?=w.heap[b]?/\Y b):dB Y w' a l:=by intro i hi;obtain⟨b,o,rfl,hx,hb,c1,c2⟩:=h i hi;obtain⟨e,hy⟩:=hk b hx hb;exact⟨b,o,rfl,hy,by omega,(World.cell?_of_block (w:=w) (a:=⟨b,o+i*2,none⟩) e).trans c1,(World.cell?_of_block (w:=w) (a:=⟨b,o+i*2+1,none⟩) e).trans c2⟩
theorem dB.str{s:St}{a:Option Addr}(h:dB X w a s.regs)(hl:s.regs.length<=maxLen):bj w s a:=by refine⟨hl,λi hi=>?_⟩;obtain⟨b,o,rfl,_,hb,c1,c2⟩:=h i hi;exact⟨b,o,rfl,hb,c1,c2⟩
theorem ni.to{s:Sl}{l:List Int}(h:ni X w s l)(hs:w.heap.size<=w'.heap.size)(hk:∀b,X b->b<w.heap.size->w'.heap[b]?=w.heap[b]?/\Y b):ni Y w' s l:=by refine⟨λi hi=>?_,h.len,h.cap,h.eq⟩;obtain⟨b,o,e,hx,hb,hc⟩:=h.ints i hi;obtain⟨e2,hy⟩:=hk b hx hb;exact⟨b,o,e,hy,by omega,(World.cell?_of_block (w:=w) (a:=⟨b,o+i,none⟩) e2).trans hc⟩
theorem rN{B:Nat}{E:TypeId}{z:Nat}{v:Value}{k:Nat}{xs:List Value}(h:w.ownsRow B E z v k xs){b:Nat}(e:v.ownBlock=some b):∃cur,w.heap[b]?=some (.cells cur E (0,0)):=by
 obtain⟨-,h2 | ⟨g,c,cur,e1,_,e3,_⟩⟩:=h
 .rw[h2.1]at e; cases e
 .rw[e1]at e
  have:g=b:=by simpa[Value.ownBlock] using e
  subst this;exact⟨cur,e3⟩
theorem aM{B:Nat}{E:TypeId}{z n c k:Nat}{a:Option Addr}{xs:List Value}(h:w.ownsRow B E z (.slice a n c) k xs){b o:Nat}(e:a=some ⟨b,o,none⟩):∃cur,w.heap[b]?=some (.cells cur E (0,0)):=by subst e;exact rN h rfl
theorem cR{b c:Nat}{cs cs':Array Value}{e e':TypeId}{f f':Nat × Nat}(h:w.heap[b]?=some (.cells cs e f))(h':w.heap[c]?=some (.cells cs' e' f'))(ne:(e:Nat)≠e'):b≠c:=by rintro rfl;rw[h]at h';exact ne (congrArg (λo:Option Obj=>match o with | some (.cells _ ty _)=>ty | _=>0) h')
theorem bO.own_lt(h:bO Y w M m t):∀b,m.own M b->b<w.heap.size:=by
 intro b hb
 have key:∀ {cs:Array Value} {e:TypeId},w.heap[b]?=some (.cells cs e (0,0))->b<w.heap.size:=λe=>(Gl e)
 rcases hb with rfl | rfl | ⟨o,e⟩ | ⟨o,e⟩ | ⟨o,e⟩
 .exact key h.blk
 .exact key h.grp
 .exact key (aM h.wait e).choose_spec
 .exact key (aM h.fly e).choose_spec
 .exact key (aM h.done e).choose_spec
theorem bZ{B:Nat}{E:TypeId}{z n c k:Nat}{a:Option Addr}{xs:List Value}(h:w.ownsRow B E z (.slice a n c) k xs)(hk:∀b o,a=some ⟨b,o,none⟩->w'.heap[b]?=w.heap[b]?):w'.ownsRow B E z (.slice a n c) k xs:=by
 refine aV h λb e=>?_;obtain⟨-,h2 | ⟨g,c',cur,e1,-⟩⟩:=h
 .rw[h2.1]at e; cases e
 .rw[e1]at e
  have:g=b:=by simpa[Value.ownBlock] using e
  subst this;simp only[Value.slice.injEq]at e1;exact hk g 0 e1.1
theorem bO.move(h:bO Y w M m t)(hs:w.heap.size<=w'.heap.size)(hk:∀b,Y b->b<w.heap.size->w'.heap[b]?=w.heap[b]?):bO Y w' M m t:=by
 have ho:∀b,m.own M b->w'.heap[b]?=w.heap[b]?:=λb e=>hk b (h.own b e) (h.own_lt b e)
 exact⟨(ho M (.inl rfl)).trans h.blk,(ho _ (.inr (.inl rfl))).trans h.grp,h.ok,h.len,h.str.to hs λb e hb=>⟨hk b e.1 hb,e⟩,λk=>(h.box k).to hs λb e hb=>⟨hk b e.1 hb,e⟩,
  bZ h.wait λb o e=>ho b (.inr (.inr (.inl ⟨o,e⟩))),bZ h.fly λb o e=>ho b (.inr (.inr (.inr (.inl ⟨o,e⟩)))),bZ h.done λb o e=>ho b (.inr (.inr (.inr (.inr ⟨o,e⟩)))),h.own,h.eq,h.cnt⟩
theorem bO.over(h:bO Y w M m t)(b:Below w.heap.size w w'):bO Y w' M m t:=h.move b.size λc _ hc=>b.block c hc
theorem bO.mono(h:bO Y w M m t)(hY:∀b,Y b->Y' b):bO Y' w M m t :=
 ⟨h.blk,h.grp,h.ok,h.len,h.str.to (Nat.le_refl _) λb e _=>⟨rfl,hY b e.1,e.2⟩,λk=>(h.box k).to (Nat.le_refl _) λb e _=>⟨rfl,hY b e.1,e.2⟩,h.wait,h.fly,h.done,λb e=>hY b (h.own b e),h.eq,h.cnt⟩
theorem mH.over(h:mH Y w M t)(b:Below w.heap.size w w'):mH Y w' M t:=by obtain⟨m,h⟩:=h; exact⟨m,h.over b⟩
theorem mH.mono(h:mH Y w M t)(hY:∀b,Y b->Y' b):mH Y' w M t:=by obtain⟨m,h⟩:=h; exact⟨m,h.mono hY⟩
theorem mH.same(h:mH Y w M t)(hs:w.heap.size<=w'.heap.size)(sm:Same Y w w'):mH Y w' M t:=by obtain⟨m,h⟩:=h; exact⟨m,h.move hs λb e _=>sm b e⟩
theorem bO.setK(h:bO Y w M m t)(k:Kp)(hs:k.s=t.k.s)(he:k.ep=t.k.ep):bO Y w M m { t with k:=k }:=by refine⟨?_,h.grp,h.ok,by rw[hs]; exact h.len,by dsimp only; rw[hs]; exact h.str,h.box,h.wait,h.fly,h.done,h.own,h.eq,h.cnt⟩;unfold eT;dsimp only;rw[hs,he];exact h.blk
theorem bO.MG(h:bO Y w M m t):M≠m.G:=cR h.blk h.grp (by decide)
theorem bO.Mw(h:bO Y w M m t){b o:Nat}(e:m.wa=some ⟨b,o,none⟩):b≠M/\b≠m.G:=⟨cR (aM h.wait e).choose_spec h.blk (by decide),cR (aM h.wait e).choose_spec h.grp (by decide)⟩
theorem bO.Mf(h:bO Y w M m t){b o:Nat}(e:m.fa=some ⟨b,o,none⟩):b≠M/\b≠m.G:=⟨cR (aM h.fly e).choose_spec h.blk (by decide),cR (aM h.fly e).choose_spec h.grp (by decide)⟩
theorem bO.Md(h:bO Y w M m t){b o:Nat}(e:m.da=some ⟨b,o,none⟩):b≠M/\b≠m.G:=⟨cR (aM h.done e).choose_spec h.blk (by decide),cR (aM h.done e).choose_spec h.grp (by decide)⟩
theorem bO.setG(h:bO Y w M m t){g:Gp}(f:PG w m.G g w'):bO Y w' M m { t with g:=g }:=by
 have kb:∀b,b≠m.G->b<w.heap.size->w'.heap[b]?=w.heap[b]?:=λb e hb=>f.keeps.block b e hb;have nG:∀b,¬ m.own M b->b≠m.G:=λb e q=>e (.inr (.inl q));have lt:=h.own_lt
 exact⟨(kb M h.MG (lt M (.inl rfl))).trans h.blk,f.hG,f.ok,h.len,h.str.to f.keeps.size λb e hb=>⟨kb b (nG b e.2) hb,e⟩,λk=>(h.box k).to f.keeps.size λb e hb=>⟨kb b (nG b e.2) hb,e⟩,
  bZ h.wait λb o e=>kb b (h.Mw e).2 (lt b (.inr (.inr (.inl ⟨o,e⟩)))),bZ h.fly λb o e=>kb b (h.Mf e).2 (lt b (.inr (.inr (.inr (.inl ⟨o,e⟩))))),bZ h.done λb o e=>kb b (h.Md e).2 (lt b (.inr (.inr (.inr (.inr ⟨o,e⟩))))),h.own,h.eq,h.cnt⟩
theorem bO.turn(h:bO Y w M m t)(kp:ac (·=M) w w'){m':Dm}{t':Tg}(hb:w'.heap[M]?=some (.cells (eT m' t') 78 (0,0)))(hY:∀b,Y b->Y' b)(eG:m'.G=m.G)(eg:t'.g=t.g)
  (own:∀b,m'.own M b->m.own M b) (hl:t'.k.s.regs.length<=maxLen) (str:dB (λb=>Y' b/\¬ m.own M b) w' m'.sa t'.k.s.regs) (box:∀k,ni (λb=>Y' b/\¬ m.own M b) w' (m'.b.get k) (t'.b.get k))
  (wt:(m'.wa=m.wa/\m'.wc=m.wc/\t'.wait=t.wait)\/(m'.wa=none/\m'.wc=0/\t'.wait=[])) (fl:m'.fa=m.fa/\m'.fc=m.fc/\t'.fly=t.fly) (dn:m'.da=m.da/\m'.dc=m.dc/\m'.dl=m.dl/\t'.done=t.done) (tg:t.tag<=t'.tag:=by exact Int.le_refl _):bO Y' w' M m' t':=by
 have kb:∀b,b≠M->b<w.heap.size->w'.heap[b]?=w.heap[b]?:=λb e hb=>kp.block b e hb;have lt:=h.own_lt;refine⟨hb,by rw[eG,eg]; exact(kb _ h.MG.symm (lt _ (.inr (.inl rfl)))).trans h.grp,by rw[eg]; exact h.ok,hl,str.to (Nat.le_refl _) λb e _=>⟨rfl,e.1,λq=>e.2 (own b q)⟩,λk=>(box k).to (Nat.le_refl _) λb e _=>⟨rfl,e.1,λq=>e.2 (own b q)⟩,?_,?_,?_,λb e=>hY b (h.own b (own b e)),by rw[dn.2.2.1,dn.2.2.2]; exact h.eq,?_⟩
 .rcases wt with⟨e1,e2,e3⟩ | ⟨e1,e2,e3⟩
  .rw[e1,e2,e3]; exact bZ h.wait λb o e=>kb b (h.Mw e).1 (lt b (.inr (.inr (.inl ⟨o,e⟩))))
  .rw[e1,e2,e3]; exact⟨rfl,.inl ⟨rfl,rfl⟩⟩
 .rw[fl.1,fl.2.1,fl.2.2]; exact bZ h.fly λb o e=>kb b (h.Mf e).1 (lt b (.inr (.inr (.inr (.inl ⟨o,e⟩)))))
 .rw[dn.1,dn.2.1,dn.2.2.1]; exact bZ h.done λb o e=>kb b (h.Md e).1 (lt b (.inr (.inr (.inr (.inr ⟨o,e⟩)))))
 .have:=h.cnt;rw[dn.2.2.1]
  rcases wt with⟨-,-,e⟩ | ⟨-,-,e⟩
  .rw[e]; omega
  .rw[e,List.length_nil]; omega
end
section
variable {w:World} {M:Nat} {m:Dm} {t:Tg}
theorem aY(h:w.heap[M]?=some (.cells (eT m t) 78 (0,0))) : (w.cell? ⟨M,0,none⟩=some (.int .i64 t.k.s.gen)/\w.cell? ⟨M,1,none⟩=some (.slice m.sa t.k.s.regs.length m.sc)/\w.cell? ⟨M,2,none⟩=some (.int .i64 t.k.s.typ)/\w.cell? ⟨M,3,none⟩=some (.int .i64 t.k.s.holder)/\w.cell? ⟨M,4,none⟩=some (.bool t.k.s.stays) /\ w.cell? ⟨M,5,none⟩=some (.int .i64 t.k.ep)/\w.cell? ⟨M,6,none⟩=some (.pointer (some ⟨m.G,0,none⟩))/\w.cell? ⟨M,11,none⟩=some (.int .i64 t.num)/\w.cell? ⟨M,12,none⟩=some (.int .i64 t.tag) /\ w.cell? ⟨M,13,none⟩=some (.slice m.wa t.wait.length m.wc)/\w.cell? ⟨M,14,none⟩=some (.slice m.fa t.fly.length m.fc)/\w.cell? ⟨M,15,none⟩=some (.slice m.da m.dl.length m.dc))/\∀o,w.frozen? ⟨M,o,none⟩=false:=by
 simp[World.cell?,World.frozen?,h]
end
