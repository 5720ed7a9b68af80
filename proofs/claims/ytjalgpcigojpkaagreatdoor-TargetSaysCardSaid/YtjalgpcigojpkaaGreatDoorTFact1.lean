import Derived.Test.YtjalgpcigojpkaaGreatDoorRows
namespace Go.Proofs.YtjalgpcigojpkaaGreatDoor.fact
section
def jp:List Nat :=
  [104,97,114,110,101,115,115]
def mainSum:List Nat :=
  [98,52,99,54,100,52,56,55,48,48,49,53,50,48,52,56,98,52,57,98,97,55,102,102,49,98,49,97,54,52,100,100,97,54,54,98,
   52,52,98,56,49,48,51,101,97,56,98,55,53,53,50,51,49,97,100,57,54,56,55,57,97,54,97,57]
def sH:List Nat :=
  [99,117,116]
def mj:List Nat :=
  [97,116,32,107,105,115,115,105,110,103,103,97,116,101,47,107,105,115,115,105,110,103,103,97,116,101,108,97,119,46,84,97,
   114,103,101,116,83,97,121,115]
set_option maxRecDepth 100000 in
theorem Em:Tryz.prog.initOrder=String.ofList ((jp ++ 32 :: (mainSum ++ 32 :: (sH ++ 32 :: mj))).map Char.ofNat):=by kernel_rfl
theorem y9:Tryz.prog.initOrder.toList=(jp ++ 32 :: (mainSum ++ 32 :: (sH ++ 32 :: mj))).map Char.ofNat:=by rw[Em,String.toList_ofList]
theorem ta(r:List Char):wordsSigns (Char.ofNat 32 :: r)=[] :: wordsSigns r:=rfl
theorem kf(w:List Char)(h:∀c∈w,c≠Char.ofNat 32)(r:List Char):wordsSigns (w ++ Char.ofNat 32 :: r)=w :: wordsSigns r:=by
  induction w with
  | nil=>exact ta r
  | cons c w ih =>
    have hc:c≠Char.ofNat 32:=h c (by simp);have ih':=ih (λx hx=>h x (by simp[hx]));rw[List.cons_append,wordsSigns,ih'];exact hc
def dH:List Char:=sH.map Char.ofNat
theorem vQ(r:List (List Char)):behindMainWord (jp.map Char.ofNat :: mainSum.map Char.ofNat :: r)=r:=by
  have h : ((jp.map Char.ofNat == "harness".toList || jp.map Char.ofNat == "ownmain".toList) && isSumSigns (mainSum.map Char.ofNat)) = true := by decide +kernel
  unfold behindMainWord;simp only[h,if_true]
theorem nR:∃rest,behindMainWord (wordsSigns Tryz.prog.initOrder.toList)=dH :: rest:=by refine⟨wordsSigns (mj.map Char.ofNat),?_⟩;rw[y9];simp only[List.map_append,List.map_cons];rw[kf _ (by decide +kernel),kf _ (by decide +kernel),kf _ (by decide +kernel),vQ];rfl
theorem ED : (dH == "gc".toList || dH == "spec".toList) = false ∧ (dH == "carried".toList) = false ∧ (dH == "cut".toList) = true ∧ (dH == "finals".toList) = false := by decide +kernel
theorem qx(rest:List (List Char)):stripLifts liftWords (dH :: rest)=([],dH :: rest):=by kernel_rfl
theorem sq{P:Program}{rest:List (List Char)}(h:behindMainWord (wordsSigns P.initOrder.toList)=dH :: rest):P.headLifts=[]:=by
  unfold Program.headLifts;rw[h,qx];simp only
  split<;>rfl
theorem Eb{P:Program}{rest:List (List Char)}(h:behindMainWord (wordsSigns P.initOrder.toList)=dH :: rest):P.make=some Make.cut:=by obtain⟨c1,c2,c3,c4⟩:=ED;unfold Program.make;rw[h];simp only[c1,c3,Bool.true_or,if_true,Bool.false_eq_true,if_false]
theorem pZ{P:Program}{rest:List (List Char)}(h:behindMainWord (wordsSigns P.initOrder.toList)=dH :: rest):P.liftsFinal=false:=by
  have c2' : (some dH == some "carried".toList) = false := by decide +kernel
  unfold Program.liftsFinal;rw[h,sq h];simp only[List.head?_cons,c2',Bool.false_and,Bool.false_or];rfl
theorem uu{P:Program}{rest:List (List Char)}(h:behindMainWord (wordsSigns P.initOrder.toList)=dH :: rest)(hl:P.laysLater=false)(hb:P.bearsReflect=false)(hd:P.doorFits []=true):P.mayEnter=true:=by
  have c3' : (some dH == some "cut".toList) = true := by decide +kernel
  unfold Program.mayEnter;rw[h];simp only[qx,List.head?_cons,c3',hl,hb,hd];simp
theorem laid:laidOutB Tryz.pinned.checked.prog=true:=by kernel_rfl
theorem mapsRowed_:mapsRowed Tryz.pinned.checked.prog=true:=by kernel_rfl
theorem stops_:(Tryz.pinned.checked.prog.stops == [])=true:=by kernel_rfl
theorem stopKnobs_:(Tryz.pinned.checked.prog.stopKnobs == [])=true:=by kernel_rfl
theorem plainKeys_:(true == Tryz.pinned.checked.prog.plainKeys)=true:=by kernel_rfl
theorem stopsHeard_:Tryz.pinned.checked.prog.stopsHeard=true:=by kernel_rfl
theorem vU:Tryz.prog.laysLater=false:=by kernel_rfl
theorem qg:Tryz.prog.bearsReflect=false:=by kernel_rfl
theorem zu:Tryz.prog.doorFits []=true:=by kernel_rfl
theorem make_:(Tryz.pinned.checked.prog.make == some Make.cut)=true:=by obtain⟨rest,h⟩:=nR;have:Tryz.pinned.checked.prog.make=some Make.cut:=Eb h;rw[this];rfl
theorem liftsFinal_:(false == Tryz.pinned.checked.prog.liftsFinal)=true:=by obtain⟨rest,h⟩:=nR;have:Tryz.pinned.checked.prog.liftsFinal=false:=pZ h;rw[this];rfl
theorem mayEnter_:Tryz.pinned.checked.prog.mayEnter=true:=by obtain⟨rest,h⟩:=nR;exact uu h vU qg zu
