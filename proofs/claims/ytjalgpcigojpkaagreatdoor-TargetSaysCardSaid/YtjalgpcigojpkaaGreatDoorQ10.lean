import Derived.Test.YtjalgpcigojpkaaGreatDoorQ09
import Derived.ProofKit
import Derived.OpenShut
import Derived.Deep.Fields
set_option maxRecDepth 99999
set_option maxHeartbeats 99999999
namespace Go.Proofs.YtjalgpcigojpkaaGreatDoor
section
open Go.RowKit
theorem jC:Tryz.prog.underlying 3=some (.int .i64)/\Tryz.prog.underlying 9=some .string:=by constructor<;>kernel_rfl
theorem jy(a b:ByteArray):(a.toList == b.toList)=decide (a=b):=by
 rw[Bool.eq_iff_iff,beq_iff_eq,decide_eq_true_eq,ByteArray.toList_eq,ByteArray.toList_eq];constructor
 .intro h; cases a with | mk a=>cases b with | mk b=>simp at h; rw[h]
 .rintro rfl; rfl
theorem xM(d:Nat)(a b:aw)(w:World):(Op.equalIn (d+2) 62 a.v b.v).run Tryz.prog w=.ok (decide (a=b)) w:=by
 have:=rh (d+1) 62 #[.int .i64 a.e,.int .i64 a.n,.string a.d] #[.int .i64 b.e,.int .i64 b.n,.string b.d] w mW.1 mW.2 _ mA
  (λo=>if o=0 then a.e == b.e else if o=1 then a.n == b.n else a.d.toList == b.d.toList) ?_
 .rw[this];refine congrArg (λb=>Result.ok b w) ?_;rw[Bool.eq_iff_iff];simp[jy];constructor
  .rintro⟨h1,h2,h3⟩; cases a; cases b; simp_all
  .rintro rfl; exact⟨rfl,rfl,rfl⟩
 .intro s hs;simp only[List.mem_cons,List.mem_nil_iff,or_false]at hs
  rcases hs with rfl | rfl | rfl
  .exact⟨by decide,_,_,run_part_plain w cM.1 rfl,run_part_plain w cM.1 rfl,run_equalIn_int w d _ _ _ _ _ jC.1⟩
  .exact⟨by decide,_,_,run_part_plain w cM.1 rfl,run_part_plain w cM.1 rfl,run_equalIn_int w d _ _ _ _ _ jC.1⟩
  .exact⟨by decide,_,_,run_part_plain w cM.2 rfl,run_part_plain w cM.2 rfl,run_equalIn_string w d _ _ _ jC.2⟩
theorem jm{P:Program}{T:TypeId}{cs:Array Value}{off n:Nat}{d:TypeDesc}(w:World)(hu:P.underlying T=some d)(hd:d.isRow=true)(hi:(P.info? T).map (·.size)=some n) : (part T cs off).run P w=.ok (.agg (cs.extract off (off+n))) w:=by
 have hagg:(isAgg T).run P w=.ok true w:=by
  unfold isAgg;rw[Sem.run_bind,run_underlying hu w]
  cases d<;>simp_all
 cases hq:P.info? T with
 | none=>simp[hq]at hi
 | some i =>
  have hs:i.size=n:=by simpa[hq] using hi
  unfold part;simp[Sem.run_bind,hagg,sizeOf,typeInfo,hq,hs]
theorem lQ:∀(l:List aw) (i:Nat) (h:i<l.length),((flat l).drop (i*3)).take 3=l[i].vs
 | c :: l,0,_=>by simp[flat,aw.vs]
 | c :: l,i+1,h=>by have:=lQ l i (by simpa using h);have e:flat (c :: l)=.int .i64 c.e :: .int .i64 c.n :: .string c.d :: flat l:=rfl;rw[e,show(i+1)*3=i*3+1+1+1 from by omega];simpa using this
theorem my{l:List aw}{i:Nat}(h:i<l.length):(flat l).toArray.extract (i*3) (i*3+3)=#[.int .i64 l[i].e,.int .i64 l[i].n,.string l[i].d]:=by apply Array.toList_inj.1;simp only[Array.toList_extract,List.extract_eq_take_drop];rw[show i*3+3 - i*3=3 from by omega];exact lQ l i h
theorem au:Tryz.prog.underlying 62=some (.struct (Tryz.prog.fieldsOf 62))/\(Tryz.prog.info? 62).map (·.size)=some 3:=by constructor<;>kernel_rfl
theorem cC:Tryz.prog.underlying 63=some (.array 8 62)/\(Tryz.prog.info? 63).map (·.size)=some 24:=by constructor<;>kernel_rfl
theorem bu:Tryz.prog.underlying 65=some (.struct (Tryz.prog.fieldsOf 65))∧(Tryz.prog.info? 65).map (·.size)=some 25∧Tryz.prog.stoodInHeld 65=false ∧ ((Tryz.prog.fieldsOf 65).toList.map fun f => (f.name, f.type, f.offset)) = [("Floor", 3, 0), ("Cells", 63, 1)] := by
 refine⟨?_,?_,?_,?_⟩<;>kernel_rfl
theorem uv{l m:List aw}(hl:l.length=8)(hm:m.length=8):((List.range 8).all λi=>decide (l[i]?=m[i]?))=decide (l=m):=by
 rw[Bool.eq_iff_iff,List.all_eq_true,decide_eq_true_eq];constructor
 .intro h;apply List.ext_getElem?;intro i;by_cases hi:i<8
  .simpa using h i (List.mem_range.2 hi)
  .rw[List.getElem?_eq_none (by omega),List.getElem?_eq_none (by omega)]
 .rintro rfl i _; simp
theorem Ce(d:Nat)(l m:List aw)(hl:l.length=8)(hm:m.length=8)(w:World) : (Op.equalIn (d+3) 63 (.agg (flat l).toArray) (.agg (flat m).toArray)).run Tryz.prog w=.ok (decide (l=m)) w:=by
 rw[<-uv hl hm];refine Cf (d+2) 63 62 8 3 _ _ w cC.1 au.2 (λi=>if h:i<l.length then l[i].v else undef) (λi=>if h:i<m.length then m[i].v else undef) _ ?_;intro i hi
 have h1:i<l.length:=by omega
 have h2:i<m.length:=by omega
 rw[jm w au.1 rfl au.2,jm w au.1 rfl au.2,my h1,my h2];simp only[dif_pos h1,dif_pos h2];refine⟨trivial,trivial,?_⟩;rw[xM d l[i] m[i] w];refine congrArg (λb=>Result.ok b w) ?_;rw[List.getElem?_eq_getElem h1,List.getElem?_eq_getElem h2];simp
structure Rp where
 floor:Int
 cells:List aw
def Rp.arr(r:Rp):Array Value:=(.int .i64 r.floor :: flat r.cells).toArray
def Rp.zero:Rp:=⟨0,List.replicate 8 aw.zero⟩
theorem Rp.size{r:Rp}(h:r.cells.length=8):r.arr.size=25:=by unfold Rp.arr; simp[flat_length,h]
theorem Rp.one(r:Rp):r.arr.all (·.oneCell')=true:=by
 unfold Rp.arr;apply all_oneCell_toArray;intro v hv
 rcases List.mem_cons.1 hv with rfl | h
 .rfl
 .exact uI _ v h
theorem Rp.at0(r:Rp):r.arr[0]?=some (.int .i64 r.floor):=by simp[Rp.arr]
theorem Rp.at(r:Rp){k:Nat}(h:k<r.cells.length):r.arr[1+k*3]?=some (.int .i64 r.cells[k].e)/\r.arr[1+k*3+1]?=some (.int .i64 r.cells[k].n)/\r.arr[1+k*3+2]?=some (.string r.cells[k].d):=by
 obtain⟨h1,h2,h3⟩:=sE r.cells k h;unfold Rp.arr;rw[show 1+k*3=k*3+1 from by omega,show k*3+1+2=k*3+2+1 from by omega]
 refine⟨?_,?_,?_⟩<;>simpa
theorem Rp.set(r:Rp){k:Nat}(c:aw)(h:k<r.cells.length) : ((r.arr.setIfInBounds (1+k*3) (.int .i64 c.e)).setIfInBounds (1+k*3+1) (.int .i64 c.n)).setIfInBounds (1+k*3+2) (.string c.d)=(Rp.mk r.floor (r.cells.set k c)).arr:=by
 unfold Rp.arr;apply Array.toList_inj.1;simp only[Array.toList_setIfInBounds];rw[show 1+k*3=k*3+1 from by omega,show k*3+1+2=k*3+2+1 from by omega,List.set_cons_succ,List.set_cons_succ,List.set_cons_succ,pw r.cells k c h]
theorem Rp.setFloor(r:Rp)(f:Int):r.arr.setIfInBounds 0 (.int .i64 f)=(Rp.mk f r.cells).arr:=by simp[Rp.arr]
theorem Rp.ext'{r q:Rp}(h:r.floor=q.floor/\r.cells=q.cells):r=q:=by cases r; cases q; simp_all
end
section
open Go.RowKit Go.Sort
theorem qK(a b:aw)(w:World):Calls Tryz.prog 136 #[a.v,b.v] w λe w'=>e=.returned (.bool (aC a b))/\Below w.heap.size w w':=by
 obtain⟨ae,an,ad⟩:=a;obtain⟨be,bn,bd⟩:=b;by_cases h1:be<ae
 .have HN:=Hs (aC ⟨ae,an,ad⟩ ⟨be,bn,bd⟩=true) (by simp[aC,h1]);go_enter Tryz.func136,Tryz.ntmps136
  go_wp2;go_ret;exact⟨aA HN.out.symm,(ay w _).alloc (by simp) _⟩
 .by_cases h2:ae=be
  .have e2:(ae == be)=true:=by simp[h2]
   have HN:=Hs (aC ⟨ae,an,ad⟩ ⟨be,bn,bd⟩=decide (bn<an)) (by simp[aC,h2]);clear h2;go_enter Tryz.func136,Tryz.ntmps136
   go_wp2;go_ret;exact⟨aA HN.out.symm,(ay w _).alloc (by simp) _⟩
  .have e2:(ae == be)=false:=by simp[h2]
   have HN:=Hs (aC ⟨ae,an,ad⟩ ⟨be,bn,bd⟩=false) (by simp[aC,h1,h2]);clear h2;go_enter Tryz.func136,Tryz.ntmps136
   go_wp2;go_ret;exact⟨aA HN.out.symm,(ay w _).alloc (by simp) _⟩
theorem vy(a b:aw)(w:World):Calls Tryz.prog 111 #[a.v,b.v] w λe w'=>e=.returned (.bool (aC a b))/\Below w.heap.size w w':=by
 obtain⟨ae,an,ad⟩:=a;obtain⟨be,bn,bd⟩:=b;by_cases h2:ae=be
 .have e2:(ae != be)=false:=by simp[h2]
  have HN:=Hs (aC ⟨ae,an,ad⟩ ⟨be,bn,bd⟩=decide (bn<an)) (by simp[aC,h2]);clear h2;go_enter Tryz.func111,Tryz.ntmps111
  go_wp2;go_ret;exact⟨aA HN.out.symm,(ay w _).alloc (by simp) _⟩
 .have e2:(ae != be)=true:=by simp[h2]
  have HN:=Hs (aC ⟨ae,an,ad⟩ ⟨be,bn,bd⟩=decide (be<ae)) (by simp[aC,h2]);clear h2;go_enter Tryz.func111,Tryz.ntmps111
  go_wp2;go_ret;exact⟨aA HN.out.symm,(ay w _).alloc (by simp) _⟩
def Rp.get(r:Rp)(k:Nat):aw:=r.cells.getD k aw.zero
def Rp.admitC(r:Rp)(k:Nat)(c:aw):Rp:=if c.e=r.floor/\aC c (r.get k)=true then ⟨r.floor,r.cells.set k c⟩ else r
theorem Rp.admit_len(r:Rp)(k:Nat)(c:aw):(r.admitC k c).cells.length=r.cells.length:=by unfold Rp.admitC; split<;>simp
theorem Rp.get_at{r:Rp}{k:Nat}(h:k<r.cells.length):r.get k=r.cells[k]:=by simp[Rp.get,h]
def Rp.fence(r:Rp)(epoch:Int):Rp:=if r.floor=epoch - 1 then ⟨epoch,r.cells⟩ else r
theorem aW{P:Program}{fn:Func}{p q:Tmp}{ty:TypeId}(h:fn.results=#[.cell p ty,.tmp q])(tmps:Array Value)(w:World)(g:Nat)(t:TypeId)(cs:Array Value)(fr:Nat × Nat)(d:TypeDesc)(v:Value)
  (hp:tmps.getD p undef=.pointer (some ⟨g,0,none⟩)) (hv:tmps.getD q undef=v) (hg:w.heap[g]?=some (.cells cs t fr))
  (hu:P.underlying ty=some d) (hd:(match d with | .struct _ | .array _ _=>true | _=>false)=true) (hi:(P.info? ty).map (·.size)=some cs.size) :
  (results fn tmps).run P w=.ok (.tuple #[.agg cs,v]) w:=by
 have JJ:tmps[p]?.getD undef=.pointer (some ⟨g,0,none⟩):=by simpa using hp
 have hv':tmps[q]?.getD undef=v:=by simpa using hv
 simp[results,h,JJ,hv',asAddr,run_loadVar_row w g t ty cs fr d hg hu hd hi]
theorem cA:Rp.zero.arr=#[.int .i64 0,.int .i64 0,.int .i64 0,.string ⟨#[]⟩,.int .i64 0,.int .i64 0,.string ⟨#[]⟩,.int .i64 0,.int .i64 0,.string ⟨#[]⟩,.int .i64 0,.int .i64 0,.string ⟨#[]⟩,.int .i64 0,.int .i64 0,.string ⟨#[]⟩,.int .i64 0,.int .i64 0,.string ⟨#[]⟩,.int .i64 0,.int .i64 0,.string ⟨#[]⟩,.int .i64 0,.int .i64 0,.string ⟨#[]⟩]:=rfl
theorem ac.setRow{S:Nat->Prop}{a w:World}(h:ac S a w){g:Nat}(hg:S g)(cs:Array Value):ac S a (w.setRow g cs) :=
 h.trans ⟨rfl,rfl,rfl,by simp,λk hk _=>setRow_other w g k cs (λe=>hk (e▸hg))⟩
theorem C6(w:World)(o p q:Obj):Below w.heap.size w (((w.alloc o).alloc p).alloc q):=((ay w o).alloc (by simp) p).alloc (by simp; omega) q
theorem gv{w:World}{b:Nat}{c:aw}{T:TypeId}(h:w.heap[b]?=some (.cells #[.int .i64 c.e,.int .i64 c.n,.string c.d] T (0,0))):w.cell? ⟨b,0,none⟩=some (.int .i64 c.e)/\w.cell? ⟨b,1,none⟩=some (.int .i64 c.n)/\w.cell? ⟨b,2,none⟩=some (.string c.d):=by simp[World.cell?,h]
theorem xj{w:World}{b k:Nat}{r:Rp}{T:TypeId}(h:w.heap[b]?=some (.cells r.arr T (0,0)))(hk:k<r.cells.length) : (w.cell? ⟨b,1+k*3,none⟩=some (.int .i64 r.cells[k].e)/\w.cell? ⟨b,1+k*3+1,none⟩=some (.int .i64 r.cells[k].n)/\w.cell? ⟨b,1+k*3+2,none⟩=some (.string r.cells[k].d)) /\ w.frozen? ⟨b,1+k*3,none⟩=false/\w.frozen? ⟨b,1+k*3+1,none⟩=false/\w.frozen? ⟨b,1+k*3+2,none⟩=false:=by
 obtain⟨h1,h2,h3⟩:=r.at hk;simp[World.cell?,World.frozen?,h,h1,h2,h3]
theorem oL{w:World}{b:Nat}{r:Rp}{T:TypeId}(h:w.heap[b]?=some (.cells r.arr T (0,0))):w.cell? ⟨b,0,none⟩=some (.int .i64 r.floor)/\w.frozen? ⟨b,0,none⟩=false:=by have:=r.at0;simp[World.cell?,World.frozen?,h,this]
theorem zR(r:Rp)(k:Nat)(c:aw)(w:World)(hr:r.cells.length=8)(hk:k<8) : Calls Tryz.prog 110 #[.agg r.arr,.int .i64 k,c.v] w λe w'=>e=.returned (.tuple #[.agg (r.admitC k c).arr,.bool (decide (c.e=r.floor))])/\Below w.heap.size w w':=by
 have HR:=Hx hr;have hz:=Hx (Rp.size hr);clear hr;go_enter Tryz.func110,Tryz.ntmps110
 go_upto_region 1 with fail;obtain⟨w3,Ip⟩:=Nn (((w.alloc (.cells r.arr 65)).alloc (.cells #[.int .i64 c.e,.int .i64 c.n,.string c.d] 62)).alloc (.cells Rp.zero.arr 65));rw[cA]at Ip;rw[<-Ip];rw[<-cA]at Ip;have HB:=Hs (Below w.heap.size w w3) (Ip▸C6 w _ _ _)
 have JY:w3.heap.size=w.heap.size+1+1+1:=by rw[Ip]; simp
 have HA:=Hs (w3.heap[w.heap.size]?=some (.cells r.arr 65 (0,0))) (Ip▸(aO w _ _ _).1);have HC:=Hs (w3.heap[w.heap.size+1]?=some (.cells #[.int .i64 c.e,.int .i64 c.n,.string c.d] 62 (0,0))) (Ip▸(aO w _ _ _).2.1);have HZ:=Hs (w3.heap[w.heap.size+1+1]?=some (.cells Rp.zero.arr 65 (0,0))) (Ip▸(aO w _ _ _).2.2)
 have MK:w.heap.size<w3.heap.size:=by omega
 have JH:w.heap.size+1<w3.heap.size:=by omega
 have hv2:w.heap.size+1+1<w3.heap.size:=by omega
 clear Ip JY;obtain⟨c0,c1,c2⟩:=gv HC.out;obtain⟨f0,-⟩:=oL HA.out;by_cases he:c.e=r.floor
 .have eb:(c.e != r.floor)=false:=by simp[he]
  have HE:=Hx he;clear he;obtain⟨⟨r0,r1,r2⟩,-⟩:=xj (k:=k) HA.out (by rw[HR.out]; exact hk);have hq:=cH (Below.refl w3.heap.size w3)
  have IE:k<r.cells.length:=by rw[HR.out]; exact hk
  have HKR:=Hx IE;obtain⟨X,hX⟩:=Nm (aC c r.cells[k]);have HX:=Hx hX;have NW:=Hx (λ(w:World)=>qK c r.cells[k] w)
  have LZ:decide ((k:Int)<8)=true:=by simpa using(by omega:(k:Int)<8)
  clear hX;go_upto_region 3 with fail;go_cut [19] (λv wx=>v=.bool X/\Below w3.heap.size w3 wx)
  case first =>
   refine wp_region_quiet_below (by kernel_rfl) (by kernel_rfl) ?_
   repeat(go_big_quiet_step (exact Calls.regrown_of (NW.out _)))
   refine wpQuiet_nil ?_;rintro w' ⟨⟨dq,osq⟩,rfl⟩;go_wp2_with fail;go_meet;exact⟨by rw[HX.out],below_regrown _ dq osq⟩
  case rest =>
   obtain⟨rfl,b4⟩:=hcut;have NA:=Hx (HB.out.trans (b4.mono HB.out.size));have HA4:=Hx ((b4.block _ MK).trans HA.out);have HC4:=Hx ((b4.block _ JH).trans HC.out);have HZ4:=Hx ((b4.block _ hv2).trans HZ.out);have hu2:w.heap.size+1+1<wc.heap.size:=Nat.lt_of_lt_of_le hv2 b4.size;have HG:=Hx (Rp.get_at (r:=r) IE);clear b4 hq c0 c1 c2 f0 r0 r1 r2;go_upto_if 19 with fail;go_cut [19] (λ_ wx=>wx.heap[w.heap.size]?=some (.cells (r.admitC k c).arr 65 (0,0))/\ac (·=w.heap.size) wc wx)
   case first =>
    cases X
    .have HM:=Hs (r.admitC k c=r) (if_neg (λh=>by have h2:=h.2; rw[HG.out]at h2; exact absurd (h2.symm.trans HX.out) (by decide)));go_wp2_with fail;go_meet;exact⟨by rw[HM.out]; exact HA4.out,ac.refl _ _⟩
    .have HM:=Hs (r.admitC k c=⟨r.floor,r.cells.set k c⟩) (if_pos ⟨HE.out,by rw[HG.out]; exact HX.out⟩);obtain⟨c0,c1,c2⟩:=gv HC4.out;obtain⟨⟨r0,r1,r2⟩,s0,s1,s2⟩:=xj (k:=k) HA4.out IE;go_wp2_with fail;go_meet;refine⟨?_,ac.setCell (S:=(·=w.heap.size)) (ac.setCell (S:=(·=w.heap.size)) (ac.setCell (S:=(·=w.heap.size)) (ac.refl _ _) rfl _) rfl _) rfl _⟩;rw[HM.out,<-Rp.set r c HKR.out];exact block_setCell (block_setCell (block_setCell HA4.out _) _) _
   case rest =>
    obtain⟨wo,rfl⟩:∃wo:World,wo=wc:=⟨_,rfl⟩
    obtain⟨ha5,hk5⟩:=hcut;have HA5:=Hx ha5;have HZ5:=Hx ((hk5.block (w.heap.size+1+1) (by omega) hu2).trans HZ4.out);have IR:=Hx (NA.out.trans (hk5.below NA.out.size (λm hm=>by omega)));have hz5:=Hx (Rp.size (r:=r.admitC k c) (by rw[Rp.admit_len,HR.out]));clear ha5 hk5;go_wp2_with (first|(refine wpList_load_row rfl 65 _ rfl w.heap.size rfl 65 (r.admitC k c).arr (0,0) _ HA5.out bu.1 rfl (by rw[bu.2.1,hz5.out]) ?_)|(refine wpList_store_row rfl 65 _ _ rfl (w.heap.size+1+1) (r.admitC k c).arr rfl rfl 65 Rp.zero.arr HZ5.out (by rw[bu.2.1,hz5.out]) (by rw[hz5.out]; rfl) (Rp.one _) ?_));refine bodyPost_ret (v:=.tuple #[.agg (r.admitC k c).arr,.bool true]) (aW Tryz.results110 _ _ (w.heap.size+1+1) 65 (r.admitC k c).arr (0,0) _ _ rfl rfl (setRow_heap _ _ _ _ _ _ HZ5.out) bu.1 rfl (by rw[bu.2.1,hz5.out])) rfl ?_;exact⟨by rw[decide_eq_true HE.out],IR.out.trans (((ac.refl (·=w.heap.size+1+1) wo).setRow rfl _).below IR.out.size (λm hm=>by omega))⟩
 .have eb:(c.e != r.floor)=true:=by simp[he]
  have HE:=Hx he;clear he;go_wp2_with (first|(refine wpList_load_row rfl 65 _ rfl w.heap.size rfl 65 r.arr (0,0) _ HA.out bu.1 rfl (by rw[bu.2.1,hz.out]) ?_)|(refine wpList_store_row rfl 65 _ _ rfl (w.heap.size+1+1) r.arr rfl rfl 65 Rp.zero.arr HZ.out (by rw[bu.2.1,hz.out]) (by rw[hz.out]; rfl) r.one ?_));refine bodyPost_ret (v:=.tuple #[.agg r.arr,.bool false]) (aW Tryz.results110 _ _ (w.heap.size+1+1) 65 r.arr (0,0) _ _ rfl rfl (setRow_heap _ _ _ _ _ _ HZ.out) bu.1 rfl (by rw[bu.2.1,hz.out])) rfl ?_;refine⟨?_,HB.out.trans (((ac.refl (·=w.heap.size+1+1) w3).setRow rfl _).below HB.out.size (λm hm=>by omega))⟩;rw[show r.admitC k c=r from if_neg (λh=>HE.out h.1),decide_eq_false HE.out]
theorem l7{P:Program}{ops:Array Oper}{rest:List Oper}{o:Oper}{a:Act}{w:World}{Q:Act->Prop}(I9:o.guard=none)(ty:TypeId)(x:Operand)(ho:o.op=.load ty x)
  (g:Nat) (hx:a.eval x=.pointer (some ⟨g,0,none⟩)) (t:TypeId) (cs:Array Value) (fr:Nat × Nat) (d:TypeDesc) (hg:w.heap[g]?=some (.cells cs t fr))
  (hu:P.underlying ty=some d) (hd:(match d with | .struct _ | .array _ _=>true | _=>false)=true) (hi:(P.info? ty).map (·.size)=some cs.size)
  (h:wpStill P ops w Q rest (a.put o.dst (.agg cs))):wpStill P ops w Q (o :: rest) a:=by
 have hw:Region.wanted o (yielded ops a.tmps)=true:=by simp[Region.wanted,I9]
 unfold wpStill;rw[if_pos hw];unfold Oper.still execOp;simp only[ho,hx,Instr.loadAt,Instr.sureAddr,Sem.run_bind,Sem.run_pure,Result.andThen_ok,run_loadVar_row w g t ty cs fr d hg hu hd hi];exact⟨rfl,h⟩
def nj(w:World)(N n:Nat)(T:TypeId):Prop:=∃old,w.heap[N]?=some (.cells old T (0,0))/\old.size=n
theorem nj.drew{w:World}{N n:Nat}{T:TypeId}(h:nj w N n T):nj w.drew N n T:=h
theorem nj.setRow{w:World}{N n:Nat}{T:TypeId}(h:nj w N n T){cs:Array Value}(hs:cs.size=n):nj (w.setRow N cs) N n T:=by obtain⟨old,h1,h2⟩:=h;exact⟨cs,setRow_heap w N old cs T (0,0) h1,hs⟩
theorem aJ{P:Program}{ops:Array Oper}{o:Oper}{a:Act}{w:World}{K:Act->World->Prop}{Q:Exit->Act->World->Prop}{E:Prop}(I9:o.guard=none)(ty:TypeId)(x y:Operand)(ho:o.op=.store ty x y)(g:Nat)(cells:Array Value)(hx:a.eval x=.pointer (some ⟨g,0,none⟩))(hy:a.eval y=.agg cells)(t:TypeId)(old:Array Value)(hg:w.heap[g]?=some (.cells old t (0,0)))(hi:(P.info? ty).map (·.size)=some cells.size)(hold:old.size=cells.size)(h1:cells.all (·.oneCell')=true)(h:K (a.put o.dst undef) (w.setRow g cells)):if Region.wanted o (yielded ops a.tmps)=true then Oper.wp P o a w K Q else E:=by
 have hw:Region.wanted o (yielded ops a.tmps)=true:=by simp[Region.wanted,I9]
 rw[if_pos hw];exact wp_store_row ty x y ho g cells hx hy t old hg hi hold h1 h
theorem AK{w:World}{N:Nat}{cs:Array Value}{T:TypeId}(h:w.heap[N]?=some (.cells cs T (0,0))):w.rangeAt N 0 cs.toList:=by intro j v hj;rw[cell_of_row w N (0+j) cs T (0,0) h,Nat.zero_add];simpa using hj
theorem oK{Y:Rp}(h:Y.cells.length=8):∃(f:Int) (d0 d1 d2 d3 d4 d5 d6 d7:aw),Y=⟨f,[d0,d1,d2,d3,d4,d5,d6,d7]⟩:=by
 obtain⟨f,l⟩:=Y
 match l,h with
 | [d0,d1,d2,d3,d4,d5,d6,d7],_=>exact⟨f,d0,d1,d2,d3,d4,d5,d6,d7,rfl⟩
theorem lq{P:Program}{id:Nat}{Q:Exit->Act->World->Prop}{a:Act}{w:World}{l:List Oper}(n:Nat)(hm:P.follows .mixedOrders=true)(hB:Region.lexTailB .any l.toArray n=true)(h:∀wd,Below w.heap.size w wd->wd.heap=w.heap->wpStill P l.toArray wd (λa'=>wpList P l.toArray Q (l.drop n) a' wd) (l.take n) a):(Code.region id l.toArray true).wp P Q a w :=
 wp_region_still_tail n hm hB (h w.drew (Below.refl _ _).drew rfl)
theorem cP{P:Program}{ops:Array Oper}{S:World->Prop}{op:Oper}{a:Act}(hw:Region.wanted op (yielded ops a.tmps)=true)(ty:TypeId)(x:Operand)(ho:op.op=.load ty x)(g:Nat)(hx:a.eval x=.pointer (some ⟨g,0,none⟩))(t:TypeId)(cs:Array Value)(fr:Nat × Nat)(d:TypeDesc)(hg:∀w,S w->w.heap[g]?=some (.cells cs t fr))(hu:P.underlying ty=some d)(hd:(match d with | .struct _ | .array _ _=>true | _=>false)=true)(hi:(P.info? ty).map (·.size)=some cs.size):YieldsIf P ops S op (.agg cs) a :=
 .inl ⟨hw,λw hC=>by
  unfold execOp
  simp only[ho,hx,Instr.loadAt,Instr.sureAddr,Sem.run_bind,Sem.run_pure,Result.andThen_ok,run_loadVar_row w g t ty cs fr d (hg w hC) hu hd hi]⟩
theorem zn(r:Rp)(epoch:Int)(w:World)(hr:r.cells.length=8)(he:-4611686018427387904<=epoch/\epoch<=4611686018427387904) : Calls Tryz.prog 137 #[.agg r.arr,.int .i64 epoch] w λe w'=>e=.returned (.tuple #[.agg (r.fence epoch).arr,.bool ((r.fence epoch).floor == epoch)])/\Below w.heap.size w w':=by
 have hz:=Hx (Rp.size (r:=r.fence epoch) (by unfold Rp.fence; split<;>exact hr));have q1:IntKind.i64.wrap (epoch - 1)=epoch - 1:=IntWalk.i64_in _ (by omega);clear hr;go_enter Tryz.func137,Tryz.ntmps137
 go_upto_region 1 with fail;obtain⟨w3,Ip⟩:=Nn ((w.alloc (.cells r.arr 65)).alloc (.cells Rp.zero.arr 65));rw[cA]at Ip;rw[<-Ip];rw[<-cA]at Ip;have HB:=Hs (Below w.heap.size w w3) (Ip▸(ay w _).alloc (by simp) _)
 have JY:w3.heap.size=w.heap.size+1+1:=by rw[Ip]; simp
 have HA:=Hs (w3.heap[w.heap.size]?=some (.cells r.arr 65 (0,0))) (Ip▸heap_alloc2_old w _ _);have HZ:=Hs (w3.heap[w.heap.size+1]?=some (.cells Rp.zero.arr 65 (0,0))) (Ip▸heap_alloc2_new w _ _)
 have MK:w.heap.size<w3.heap.size:=by omega
 have JH:w.heap.size+1<w3.heap.size:=by omega
 clear Ip JY;obtain⟨f0,g0⟩:=oL HA.out;go_upto_if 10 with fail;go_cut [10] (λ_ wx=>wx.heap[w.heap.size]?=some (.cells (r.fence epoch).arr 65 (0,0))/\ac (·=w.heap.size) w3 wx)
 case first =>
  by_cases hf:r.floor=epoch - 1
  .have eb:(r.floor == epoch - 1)=true:=by simp[hf]
   have HF:=Hs (r.fence epoch=⟨epoch,r.cells⟩) (if_pos hf);clear hf;go_wp2_with fail;go_meet;exact⟨by rw[HF.out,<-Rp.setFloor]; exact block_setCell HA.out _,ac.setCell (S:=(·=w.heap.size)) (ac.refl _ _) rfl _⟩
  .have eb:(r.floor == epoch - 1)=false:=by simp[hf]
   have HF:=Hs (r.fence epoch=r) (if_neg hf);clear hf;go_wp2_with fail;go_meet;exact⟨by rw[HF.out]; exact HA.out,ac.refl _ _⟩
 case rest =>
  obtain⟨ha5,hk5⟩:=hcut;have IR:=Hx (HB.out.trans (hk5.below HB.out.size (λm hm=>by omega)));have HA5:=Hx ha5;have HZ5:=Hx ((hk5.block (w.heap.size+1) (by omega) JH).trans HZ.out);clear ha5 hk5 f0 g0;obtain⟨Y,hY⟩:=Nm (r.fence epoch);rw[hY]at HA5 hz;have HY:=Hx hY;clear hY;go_wp2_with fail
  obtain⟨S,hS⟩:∃S:World->Prop,S=λw'=>w'.heap[w.heap.size]?=some (.cells Y.arr 65 (0,0))/\nj w' (w.heap.size+1) 25 65:=⟨_,rfl⟩
  replace hS:=Hx hS
  have S1:∀w',S w'->w'.heap[w.heap.size]?=some (.cells Y.arr 65 (0,0)):=λw' h=>by rw[hS.out]at h; exact h.1
  have S3:∀w',S w'->nj w' (w.heap.size+1) 25 65:=λw' h=>by rw[hS.out]at h; exact h.2
  have S0:S wc.drew:=by rw[hS.out]; exact⟨HA5.out,⟨Rp.zero.arr,HZ5.out,rfl⟩⟩
  have S4:∀w',S w'->S (w'.setRow (w.heap.size+1) Y.arr):=λw' h=>by rw[hS.out]at h ⊢;exact⟨(setRow_other _ _ _ _ (by omega)).trans h.1,h.2.setRow hz.out⟩
  refine wp_region_held_drew (S:=S) (by kernel_rfl) S0 (λdT=>?_);refine wt 0 (.agg Y.arr) dT ?_ (hy:=cP (by rfl) 65 _ rfl w.heap.size rfl 65 Y.arr (0,0) _ S1 bu.1 rfl (by rw[bu.2.1,hz.out]));go_simp;refine wt 1 _ dT ?_;go_simp;refine wt 2 (.int .i64 Y.floor) dT ?_ (hy:=Or.inl ⟨by rfl,λw' sT=>by have hc:=(oL (S1 w' sT)).1; go_simp⟩);go_simp;refine wt 3 _ dT ?_;go_simp;refine wt 4 _ dT ?_;go_simp;refine wpAnyH_ready (rs:=[5]) (by kernel_rfl) (by simp) ?_;refine AllReadyH.cons (o:=_) rfl (λK hK=>?_) AllReadyH.nil;obtain⟨old,ho1,ho2⟩:=S3 _ dT;refine aJ rfl 65 _ _ rfl (w.heap.size+1) Y.arr rfl rfl 65 old ho1 (by rw[bu.2.1,hz.out]) (by rw[ho2,hz.out]) (Rp.one _) ?_;refine hK.out _ _ (S4 _ dT) (λIa=>?_);clear hK K;go_simp;refine wpAnyH_ready (rs:=[6]) (by kernel_rfl) (by simp) ?_;refine AllReadyH.cons (o:=_) rfl (λK hK=>?_) AllReadyH.nil;go_simp;refine hK.out _ _ Ia (λID=>?_);clear hK K;refine wpAnyH_done (by kernel_rfl) ?_ _;go_wp2;have hb:Below w.heap.size w (wc.drew.setRow (w.heap.size+1) Y.arr):=IR.out.trans ((((ac.refl (·=w.heap.size+1) wc).drew).setRow rfl _).below IR.out.size (λm hm=>by omega));refine bodyPost_ret (v:=.tuple #[.agg Y.arr,.bool (Y.floor == epoch)]) (aW Tryz.results137 _ _ (w.heap.size+1) 65 Y.arr (0,0) _ _ rfl rfl (setRow_heap _ _ _ _ _ _ ho1) bu.1 rfl (by rw[bu.2.1,hz.out])) rfl ?_;exact⟨by rw[HY.out],hb⟩
def Rp.start:Rp:=⟨1,List.replicate 8 aw.zero⟩
theorem Rp.get_set{f:Int}{cs:List aw}{k:Nat}(c:aw)(h:k<cs.length):(Rp.mk f (cs.set k c)).get k=c:=by simp[Rp.get,h]
theorem eJ{P:Program}{fn:Func}{p:Tmp}{ty:TypeId}(h:fn.results=#[.cell p ty])(tmps:Array Value)(w:World)(g:Nat)(t:TypeId)(cs:Array Value)(fr:Nat × Nat)(d:TypeDesc)
  (hp:tmps.getD p undef=.pointer (some ⟨g,0,none⟩)) (hg:w.heap[g]?=some (.cells cs t fr))
  (hu:P.underlying ty=some d) (hd:(match d with | .struct _ | .array _ _=>true | _=>false)=true) (hi:(P.info? ty).map (·.size)=some cs.size) :
  (results fn tmps).run P w=.ok (.agg cs) w:=by
 have JJ:tmps[p]?.getD undef=.pointer (some ⟨g,0,none⟩):=by simpa using hp
 simp[results,h,JJ,asAddr,run_loadVar_row w g t ty cs fr d hg hu hd hi]
theorem new_any(w:World):Calls Tryz.prog 80 #[] w λe w'=>e=.returned (.agg Rp.start.arr)/\Below w.heap.size w w':=by
 go_enter Tryz.func80,Tryz.ntmps80
 go_upto_region 1 with fail;obtain⟨w1,pX⟩:=Nn (w.alloc (.cells Rp.zero.arr 65));rw[cA]at pX;rw[<-pX];rw[<-cA]at pX;have HB:=Hs (Below w.heap.size w w1) (pX▸ay w _);have HZ:=Hs (w1.heap[w.heap.size]?=some (.cells Rp.zero.arr 65 (0,0))) (pX▸heap_alloc_new w _);clear pX;go_wp2_with (refine wpList_store_row rfl 65 _ _ rfl w.heap.size Rp.start.arr rfl rfl 65 Rp.zero.arr HZ.out (by rw[bu.2.1]; rfl) (by rfl) (Rp.one _) ?_);refine bodyPost_ret (v:=.agg Rp.start.arr) (eJ Tryz.results80 _ _ w.heap.size 65 Rp.start.arr (0,0) _ rfl (setRow_heap _ _ _ _ _ _ HZ.out) bu.1 rfl (by rw[bu.2.1]; rfl)) rfl ?_;exact⟨rfl,HB.out.trans (((ac.refl (·=w.heap.size) w1).setRow rfl _).below HB.out.size (λm hm=>by omega))⟩
theorem EJ(r:Rp)(i:Int)(k:Nat)(hi:i=(k:Int))(c:aw)(w:World)(hr:r.cells.length=8)(hk:k<8)(m:Rp)(hm:r.admitC k c=m)(b:Bool)(hb:decide (c.e=r.floor)=b) : Calls Tryz.prog 110 #[.agg r.arr,.int .i64 i,c.v] w λe w'=>e=.returned (.tuple #[.agg m.arr,.bool b])/\Below w.heap.size w w':=by
 subst hi hm hb; exact zR r k c w hr hk
theorem sZ{P:Program}{ops:Array Oper}{rest:List Oper}{o:Oper}{a:Act}{C:World->Prop}{Q:Act->Prop}(hw:Region.wanted o (yielded ops a.tmps)=true)(op:BinOp)(t u:TypeId)(x y:Operand)(ho:o.op=.binOp op t x y u)(xs ys:Array Value)(hx:a.eval x=.agg xs)(hy:a.eval y=.agg ys)(hm:P.eqGuardType P.depth t=false)(v:Value)(hb:∀w,(binOp op t (.agg xs) (.agg ys)).run P w=.ok v w)(h:wpQuiet P ops C Q rest (a.put o.dst v)):wpQuiet P ops C Q (o :: rest) a:=by
 unfold wpQuiet;rw[if_pos hw];refine⟨v,λw hC=>?_,h⟩;unfold Oper.quietAt execOp;simp only[ho,hx,hy,Sem.run_bind,Sem.run_pure,Result.andThen_ok,run_eqGuard_agg _ op t x y xs ys hm,hb];exact⟨rfl,rfl⟩
theorem nL(wx:World)(z cs:Array Value)(T:TypeId):Below wx.heap.size wx ((wx.alloc (.cells z T)).setRow wx.heap.size cs) :=
 (ay wx _).trans (((ac.refl (·=wx.heap.size) (wx.alloc (.cells z T))).setRow rfl _).below (ay wx _).size (λm hm=>by omega))
end
section
open Go.ChangeShapes Go.WideShapes Go.ChangeAt Go.RowKit Go.Deep
theorem own:ownKnob Tryz.prog.godebug=none:=by kernel_rfl
theorem laidOut:laidOutB Tryz.prog=true:=by kernel_rfl
section
variable {H:Type} {enc:TypeId × Value->H} {P:Program}
theorem jY(hl:laidOutB P=true){W W':World}(hb:Below W.heap.size W W') :
  ∀ {ts:List TypeId} {vs:List Value} {ds:List (DataW H)} {ps:List MemPlace},(∀t∈ts,P.readableRec t=true/\t<P.types.size)->(∀x∈ps,x.block<W.heap.size) ->
   DataW.TrodAll enc P W 0 (λ_=>true) true ts vs ds ps->DataW.TrodAll enc P W' 0 (λb=>decide (b<W.heap.size)) true ts vs ds ps
 | [],[],[],_,_,_,h=>h
 | t :: ts,v :: vs,d :: ds,ps,ht,lB,h=>by
  obtain⟨p,q,h1,h2,rfl⟩:=h;exact⟨p,q,Below.trod hl (ht t (by simp)).1 (ht t (by simp)).2 h1 hb (λx hx=>lB x (by simp[hx])),jY hl hb (λt' h'=>ht t' (by simp[h'])) (λx hx=>lB x (by simp[hx])) h2,rfl⟩
 | [],_ :: _,_,_,_,_,h=>h.elim
 | [],[],_ :: _,_,_,_,h=>h.elim
 | _ :: _,[],_,_,_,_,h=>h.elim
 | _ :: _,_ :: _,[],_,_,_,h=>h.elim
theorem yA{f:Func}{s:ChangeSpec}{W W':World}{args:Array Value}{ds gs:List (DataW H)}{before:List MemPlace}{tb:TypeId}(hl:laidOutB P=true)(hW:DataW.Whole enc P f.params.toList s.vars false W args.toList ds gs before)(hvars:s.vars=[])(hres:f.resultTypes=#[tb])(htb:P.underlying tb=some .bool)(hts:∀t∈f.params.toList,P.readableRec t=true/\t<P.types.size)(hfn:s.fn H (ds ++ gs)={ results:=[.lit (.bool true)],args:=ds })(hb:Below W.heap.size W W') : s.post enc P f false true false false W args (.bool true) W':=by
 have lB:=hW.lt;have hW':=hW;obtain⟨p,q,hA,hV,rfl,hfz,JP⟩:=hW;rw[hvars]at hV;obtain⟨rfl,rfl⟩:=trodVars_none hV;refine⟨ds,[],p ++ [],[],p,[],hW',?_,?_,?_,hb.frame _,λh=>by cases h⟩
 .rw[hfn,hres];exact trodAll_cons_mk (shut_bool htb true) trodAll_mk0
 .rw[hfn];exact jY hl hb hts (λx hx=>by simpa using lB x (by simp[hx])) hA
 .rw[hvars,hfn];rfl
theorem F9{a b:Bool}(h1:a=true)(h2:b=true):(a && b)=true:=by rw[h1,h2]; rfl
theorem Fz{α:Type}{l:List α}(h:l.length=2):∃a b,l=[a,b]:=by
 match l,h with
 | [a,b],_=>exact⟨a,b,rfl⟩
theorem Gv{α:Type}{l:List α}(h:l.length=5):∃a b c d e,l=[a,b,c,d,e]:=by
 match l,h with
 | [a,b,c,d,e],_=>exact⟨a,b,c,d,e,rfl⟩
end
section
variable {H:Type} {enc:TypeId × Value->H} {w:World} {base:Nat}
theorem oU(w:World)(a:Addr):∀n,(∀i,i<n->∃u v:Int,w.cell? (a.add (i*2))=some (.int .i64 u)/\w.cell? (a.add (i*2+1))=some (.int .i64 v)) ->
  ∃l:List (Int × Int),l.length=n/\∀i (h:i<l.length),w.cell? (a.add (i*2))=some (.int .i64 (l[i]).1)/\w.cell? (a.add (i*2+1))=some (.int .i64 (l[i]).2)
 | 0,_=>⟨[],rfl,λi h=>absurd h (by simp)⟩
 | k+1,key=>by
  obtain⟨l,hl,Lh⟩:=oU w a k (λi hi=>key i (by omega));obtain⟨u,v,hu,hv⟩:=key k (by omega);refine⟨l ++ [(u,v)],by simp[hl],λi h=>?_⟩;by_cases hik:i<l.length
  .rw[List.getElem_append_left hik]; exact Lh i hik
  .have:i=k:=by simp at h; omega
   subst this;rw[List.getElem_append_right (by omega)];simp[hl,hu,hv]
theorem vf{fuel:Nat}{cs:List Value}{x:DataW H × List MemPlace}(h:DataW.trod enc Tryz.prog w base (λ_=>true) true fuel 34 cs=some x) :
  ∃(s:St) (a:Option Addr) (cap:Nat),cs=[.int .i64 s.gen,.slice a s.regs.length cap,.int .i64 s.typ,.int .i64 s.holder,.bool s.stays]/\bj w s a:=by
 obtain⟨xs,n,_,hx,hcl,hxl,hf⟩:=DataW.trod_struct Tryz.underlying34 h
 have hC:Tryz.prog.cellsOf 34=5:=by kernel_rfl
 have hC3:Tryz.prog.cellsOf 3=1:=by kernel_rfl
 have hC22:Tryz.prog.cellsOf 32=1:=by kernel_rfl
 have hC4:Tryz.prog.cellsOf 4=1:=by kernel_rfl
 rw[hC]at hcl;obtain⟨c0,c1,c2,c3,c4,rfl⟩:=Gv hcl;obtain⟨y0,y1,y2,y3,y4,rfl⟩:=Gv hxl;have f0:=hf 0 _ rfl;have f1:=hf 1 _ rfl;have f2:=hf 2 _ rfl;have f3:=hf 3 _ rfl;have f4:=hf 4 _ rfl;simp only[List.getElem_toArray,List.getElem_cons_zero,List.getElem_cons_succ,hC3,hC22,hC4,List.drop_zero,List.drop_succ_cons,List.take_succ_cons,List.take_zero,List.getElem?_cons_zero,List.getElem?_cons_succ]at f0 f1 f2 f3 f4;obtain⟨i0,e0,_,w0⟩:=DataW.trod_int Tryz.underlying3 f0;obtain⟨i2,e2,_,w2⟩:=DataW.trod_int Tryz.underlying3 f2;obtain⟨i3,e3,_,w3⟩:=DataW.trod_int Tryz.underlying3 f3;obtain⟨b4,e4,_⟩:=DataW.trod_bool Tryz.underlying4 f4;simp only[List.cons.injEq,and_true]at e0 e2 e3 e4;subst e0 e2 e3 e4
 rcases open_slice Tryz.underlying32 f1 with⟨Iu,_⟩ | ⟨a',len',cap',m,n',D,Pl,Iu,Ix,hl,hm,NM,hx1,hi⟩
 .simp only[List.cons.injEq,and_true]at Iu;subst Iu;exact⟨⟨i0,[],i2,i3,b4⟩,none,0,rfl,⟨by simp,bE.nil _ _ _⟩⟩
 .simp only[List.cons.injEq,and_true]at Iu;subst Iu
  have hC27:Tryz.prog.cellsOf 144=2:=by kernel_rfl
  have hml:len'<=m:=by rw[NM]; split<;>omega
  have key:∀i,i<len'->∃u v:Int,w.cell? (a'.add (i*2))=some (.int .i64 u)/\w.cell? (a'.add (i*2+1))=some (.int .i64 v):=by
   intro i L6;obtain⟨cs',hc,ht'⟩:=hi i (by omega);rw[hC27]at hc;obtain⟨ys,n2,_,_,hyl,hys,hg⟩:=DataW.trod_struct Tryz.underlying144 ht';rw[hC27]at hyl;obtain⟨d0,d1,rfl⟩:=Fz hyl;obtain⟨z0,z1,rfl⟩:=Fz hys;have g0:=hg 0 _ rfl;have g1:=hg 1 _ rfl;simp only[List.getElem_toArray,List.getElem_cons_zero,List.getElem_cons_succ,hC3,List.drop_zero,List.drop_succ_cons,List.take_succ_cons,List.take_zero,List.getElem?_cons_zero,List.getElem?_cons_succ]at g0 g1;obtain⟨u,eu,_,_⟩:=DataW.trod_int Tryz.underlying3 g0;obtain⟨v,ev,_,_⟩:=DataW.trod_int Tryz.underlying3 g1;simp only[List.cons.injEq,and_true]at eu ev;subst eu ev;obtain⟨_,_,Iw⟩:=World.cells?_some hc;refine⟨u,v,?_,?_⟩
   .have:=Iw 0 (by omega); simpa[Go.Deep.add_add] using this
   .have:=Iw 1 (by omega); simpa[Go.Deep.add_add] using this
  have hall:=oU w a' len' key;obtain⟨l,hll,Lh⟩:=hall;subst hll;refine⟨⟨i0,l,i2,i3,b4⟩,some a',cap',rfl,⟨by show l.length<=maxLen; omega,λi (L6:i<l.length)=>?_⟩⟩;obtain⟨c1,c2⟩:=Lh i L6;obtain⟨ab,ao,asp⟩:=a'
  have has:asp=none:=by
   cases asp with
   | none=>rfl
   | some z =>
    exfalso;have c0:=(Lh 0 (by omega)).1;simp[Addr.add,World.cell?]at c0
    split at c0<;>simp at c0
  subst has;refine⟨ab,ao,rfl,block_lt_of_cell (Lh 0 (by omega)).1,?_,?_⟩
  .cases i with
   | zero=>simpa[Addr.add] using c1
   | succ j=>simpa[Addr.add] using c1
  .simpa[Addr.add,Nat.add_assoc] using c2
end
def Dc(w:World)(a:Option Addr)(l:List Rp):Prop :=
 ∀i (h:i<l.length),l[i].cells.length=8/\∃b o,a=some ⟨b,o,none⟩/\b<w.heap.size/\w.rangeAt b (o+i*25) l[i].arr.toList
section
variable {H:Type} {enc:TypeId × Value->H} {w:World} {base:Nat}
end
