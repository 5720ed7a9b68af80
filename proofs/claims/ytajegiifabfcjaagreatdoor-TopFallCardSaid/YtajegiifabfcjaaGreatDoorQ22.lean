/-
  KpSame, Fact1
-/
import Derived.Test.YtajegiifabfcjaaGreatDoorQ10
import Derived.Test.YtajegiifabfcjaaGreatDoorRows
namespace Go.Proofs.YtajegiifabfcjaaGreatDoor
open Go.RowKit
def SomeBool (w:World) (e:Ending) (w':World):Prop:=(∃ b:Bool,e=.returned (.bool b))∧Below w.heap.size w w'
theorem SomeBool.mk {w w':World} (b:Bool) (h:Below w.heap.size w w'):SomeBool w (.returned (.bool b)) w':=⟨⟨b,rfl⟩,h⟩
theorem bne_false' {x y:Int} (h:x=y):(x != y)=false:=by simp [h]
theorem bne_true' {x y:Int} (h:¬ x=y):(x != y)=true:=by simp [h]
set_option maxHeartbeats 4000000 in
set_option maxRecDepth 100000 in
theorem samestate_some (s s2:St) (a b:Option Addr) (c d:Nat) (w:World) (ha:StR w s a) (hb:StR w s2 b) :
  Calls Tryz.prog 34 #[stV s a c,stV s2 b d] w fun e w'=>SomeBool w e w':=by
 obtain ⟨g,l,t,h,st⟩:=s
 obtain ⟨g2,l2,t2,h2,st2⟩:=s2
 obtain ⟨hl,ha⟩:=ha
 obtain ⟨_,hb⟩:=hb
 unfold maxLen at hl
 dsimp only at hl ha hb
 have B2:=fun o1 o2=>(bal w o1).trans ((bal (w.alloc o1) o2).mono (by simp:w.heap.size≤(w.alloc o1).heap.size))
 by_cases e1:g=g2
 ·have q1:=bne_false' e1
  by_cases e2:t=t2
  ·have q2:=bne_false' e2
   by_cases e3:h=h2
   ·have q3:=bne_false' e3
    by_cases e4:st=st2
    ·subst e4
     have q4:(st != st)=false:=by simp
     by_cases e5:l.length=l2.length
     ·obtain ⟨N,hN1⟩:∃ N,N=l.length:=⟨_,rfl⟩
      have hN2:N=l2.length:=hN1.trans e5
      have H1:=Lib.hid hN1
      have H2:=Lib.hid hN2
      have q5:((N:Int) != (N:Int))=false:=by simp
      unfold stV
      dsimp only
      rw [← hN1,← hN2]
      rw [← hN1] at hl
      clear e1 e2 e3 e5 hN1 hN2
      go_enter Tryz.func34,Tryz.ntmps34
      go_wp2
      go_loopw [5] (fun i wr=>∃ k:Nat,k≤N∧i=.int .i64 k∧Below (w.heap.size+2) ((w.alloc (.cells #[.int .i64 g,.slice a N c,.int .i64 t,.int .i64 h,.bool st] 35)).alloc (.cells #[.int .i64 g2,.slice b N d,.int .i64 t2,.int .i64 h2,.bool st] 35)) wr) (fun i _=>N - (intOf i).toNat)
      case atStart=>exact ⟨0,by omega,rfl,Below.refl _ _⟩
      case round =>
       obtain ⟨k,hk,rfl,hbw⟩:=hrel
       obtain ⟨⟨e0,e1,e2,e3,e4⟩,f0,f1,f2,f3,f4⟩:=box5 hbw (b:=w.heap.size) (by omega) (heap_alloc2_old w _ _)
       obtain ⟨⟨g0,g1,g2,g3,g4⟩,k0,k1,k2,k3,k4⟩:=box5 hbw (b:=w.heap.size+1) (by omega) (heap_alloc2_new w _ _)
       have b0:Below w.heap.size w wr:=bover (bover hbw (by simp)) (by first | (simp; done) | omega)
       by_cases hlt:k<N
       ·have hl1:k<l.length:=by rw [← H1.out]; exact hlt
        have hl2:k<l2.length:=by rw [← H2.out]; exact hlt
        obtain ⟨b1,o1,rfl,hs1,h11,h12⟩:=ha k hl1
        obtain ⟨b2,o2,rfl,hs2,h21,h22⟩:=hb k hl2
        have c11:=(b0.cell (p:=⟨b1,o1+k*2,none⟩) hs1).trans h11
        have c12:=(b0.cell (p:=⟨b1,o1+k*2+1,none⟩) hs1).trans h12
        have c21:=(b0.cell (p:=⟨b2,o2+k*2,none⟩) hs2).trans h21
        have c22:=(b0.cell (p:=⟨b2,o2+k*2+1,none⟩) hs2).trans h22
        obtain ⟨u1,hu1⟩:∃ u,l[k].1=u:=⟨_,rfl⟩
        obtain ⟨u2,hu2⟩:∃ u,l[k].2=u:=⟨_,rfl⟩
        obtain ⟨v1,hv1⟩:∃ u,(l2[k]'hl2).1=u:=⟨_,rfl⟩
        obtain ⟨v2,hv2⟩:∃ u,(l2[k]'hl2).2=u:=⟨_,rfl⟩
        rw [hu1] at c11; rw [hu2] at c12; rw [hv1] at c21; rw [hv2] at c22
        clear ha hb h11 h12 h21 h22 hu1 hu2 hv1 hv2 hl1 hl2
        by_cases y1:u1=v1
        ·by_cases y2:u2=v2
         ·subst y1; subst y2
          go_wp2
          go_quiet (fail)
          go_wp2
          go_roundw
          case rel=>exact ⟨k+1,by omega,by go_num,Go.below_drewN hbw _⟩
          case measure=>simp [intOf]; omega
         ·go_wp2
          go_quiet (fail)
          go_wp2
          go_ret
          exact SomeBool.mk false (Go.below_drewN b0 _)
        ·go_wp2
         go_quiet (fail)
         go_wp2
         go_ret
         exact SomeBool.mk false (Go.below_drewN b0 _)
       ·go_wp2
        go_ret
        exact SomeBool.mk true b0
     ·have q5:((l.length:Int) != (l2.length:Int))=true:=by simp; omega
      clear e1 e2 e3 e5
      go_enter Tryz.func34,Tryz.ntmps34
      go_wp2
      go_ret
      exact SomeBool.mk false (B2 _ _)
    ·clear e1 e2 e3
     cases st <;> cases st2 <;> first | exact absurd rfl e4 | (clear e4; go_enter Tryz.func34,Tryz.ntmps34; go_wp2; go_ret; exact SomeBool.mk false (B2 _ _))
   ·have q3:=bne_true' e3
    clear e1 e2 e3
    go_enter Tryz.func34,Tryz.ntmps34
    go_wp2
    go_ret
    exact SomeBool.mk false (B2 _ _)
  ·have q2:=bne_true' e2
   clear e1 e2
   go_enter Tryz.func34,Tryz.ntmps34
   go_wp2
   go_ret
   exact SomeBool.mk false (B2 _ _)
 ·have q1:=bne_true' e1
  clear e1
  go_enter Tryz.func34,Tryz.ntmps34
  go_wp2
  go_ret
  exact SomeBool.mk false (B2 _ _)
end Go.Proofs.YtajegiifabfcjaaGreatDoor
namespace Go.Proofs.YtajegiifabfcjaaGreatDoor.fact
def mainWord:List Nat :=
  [104,97,114,110,101,115,115]
def mainSum:List Nat :=
  [57,48,55,54,100,101,52,56,54,48,102,53,51,50,97,102,98,50,55,99,56,54,57,98,100,50,49,56,100,102,55,99,55,97,99,52,
   54,101,53,98,51,51,100,50,52,101,100,52,52,57,100,101,50,51,98,55,101,50,51,98,49,97,49,99]
def cutWord:List Nat :=
  [99,117,116]
def restSigns:List Nat :=
  [97,116,32,107,105,115,115,105,110,103,103,97,116,101,47,107,105,115,115,105,110,103,103,97,116,101,116,111,112,46,84,
   111,112,82,105,115,101,32,107,105,115,115,105,110,103,103,97,116,101,47,107,105,115,115,105,110,103,103,97,116,101,116,
   111,112,46,84,111,112,72,101,97,114,100,32,107,105,115,115,105,110,103,103,97,116,101,47,107,105,115,115,105,110,103,
   103,97,116,101,116,111,112,46,84,111,112,83,121,110,99,32,107,105,115,115,105,110,103,103,97,116,101,47,107,105,115,115,
   105,110,103,103,97,116,101,116,111,112,46,84,111,112,68,111,110,101,32,107,105,115,115,105,110,103,103,97,116,101,47,
   107,105,115,115,105,110,103,103,97,116,101,116,111,112,46,84,111,112,67,111,110,102,108,105,99,116,32,107,105,115,115,
   105,110,103,103,97,116,101,47,107,105,115,115,105,110,103,103,97,116,101,116,111,112,46,84,111,112,69,112,111,99,104,32,
   107,105,115,115,105,110,103,103,97,116,101,47,107,105,115,115,105,110,103,103,97,116,101,116,111,112,46,84,111,112,67,
   111,109,112,97,114,101,32,107,105,115,115,105,110,103,103,97,116,101,47,107,105,115,115,105,110,103,103,97,116,101,116,
   111,112,46,84,111,112,70,97,108,108,32,107,105,115,115,105,110,103,103,97,116,101,47,107,105,115,115,105,110,103,103,97,
   116,101,116,111,112,46,84,111,112,80,111,119,101,114,32,107,105,115,115,105,110,103,103,97,116,101,47,107,105,115,115,
   105,110,103,103,97,116,101,116,111,112,46,84,111,112,65,103,97,105,110]
set_option maxRecDepth 100000 in
theorem init_eq:Tryz.prog.initOrder=String.ofList ((mainWord ++ 32 :: (mainSum ++ 32 :: (cutWord ++ 32 :: restSigns))).map Char.ofNat):=by kernel_rfl
theorem init_list:Tryz.prog.initOrder.toList=(mainWord ++ 32 :: (mainSum ++ 32 :: (cutWord ++ 32 :: restSigns))).map Char.ofNat:=by rw [init_eq,String.toList_ofList]
theorem words_blank (r:List Char):wordsSigns (Char.ofNat 32 :: r)=[] :: wordsSigns r:=rfl
theorem words_cons (w:List Char) (h:∀ c∈w,c≠Char.ofNat 32) (r:List Char):wordsSigns (w ++ Char.ofNat 32 :: r)=w :: wordsSigns r:=by
  induction w with
  | nil=>exact words_blank r
  | cons c w ih =>
    have hc:c≠Char.ofNat 32:=h c (by simp)
    have ih':=ih (fun x hx=>h x (by simp [hx]))
    rw [List.cons_append,wordsSigns,ih']
    exact hc
def cutText:List Char:=cutWord.map Char.ofNat
theorem main_words (r:List (List Char)):behindMainWord (mainWord.map Char.ofNat :: mainSum.map Char.ofNat :: r)=r:=by
  have h : ((mainWord.map Char.ofNat == "harness".toList || mainWord.map Char.ofNat == "ownmain".toList) && isSumSigns (mainSum.map Char.ofNat)) = true := by decide +kernel
  unfold behindMainWord
  simp only [h,if_true]
theorem words_eq:∃ rest,behindMainWord (wordsSigns Tryz.prog.initOrder.toList)=cutText :: rest:=by
  refine ⟨wordsSigns (restSigns.map Char.ofNat),?_⟩
  rw [init_list]
  simp only [List.map_append,List.map_cons]
  rw [words_cons _ (by decide +kernel),words_cons _ (by decide +kernel),words_cons _ (by decide +kernel),main_words]
  rfl
theorem cut_not : (cutText == "gc".toList || cutText == "spec".toList) = false ∧ (cutText == "carried".toList) = false ∧ (cutText == "cut".toList) = true ∧ (cutText == "finals".toList) = false := by decide +kernel
theorem strip_cut (rest:List (List Char)):stripLifts liftWords (cutText :: rest)=([],cutText :: rest):=by kernel_rfl
theorem headLifts_of {P:Program} {rest:List (List Char)} (h:behindMainWord (wordsSigns P.initOrder.toList)=cutText :: rest):P.headLifts=[]:=by
  unfold Program.headLifts
  rw [h,strip_cut]
  simp only
  split <;> rfl
theorem make_of {P:Program} {rest:List (List Char)} (h:behindMainWord (wordsSigns P.initOrder.toList)=cutText :: rest):P.make=some Make.cut:=by
  obtain ⟨c1,c2,c3,c4⟩:=cut_not
  unfold Program.make
  rw [h]
  simp only [c1,c3,Bool.true_or,if_true,Bool.false_eq_true,if_false]
theorem liftsFinal_of {P:Program} {rest:List (List Char)} (h:behindMainWord (wordsSigns P.initOrder.toList)=cutText :: rest):P.liftsFinal=false:=by
  have c2' : (some cutText == some "carried".toList) = false := by decide +kernel
  unfold Program.liftsFinal
  rw [h,headLifts_of h]
  simp only [List.head?_cons,c2',Bool.false_and,Bool.false_or]
  rfl
theorem mayEnter_of {P:Program} {rest:List (List Char)} (h:behindMainWord (wordsSigns P.initOrder.toList)=cutText :: rest) (hl:P.laysLater=false) (hb:P.bearsReflect=false) (hd:P.doorFits []=true):P.mayEnter=true:=by
  have c3' : (some cutText == some "cut".toList) = true := by decide +kernel
  unfold Program.mayEnter
  rw [h]
  simp only [strip_cut,List.head?_cons,c3',hl,hb,hd]
  simp
theorem laid:laidOutB Tryz.pinned.checked.prog=true:=by kernel_rfl
theorem mapsRowed_:mapsRowed Tryz.pinned.checked.prog=true:=by kernel_rfl
theorem stops_:(Tryz.pinned.checked.prog.stops == [])=true:=by kernel_rfl
theorem stopKnobs_:(Tryz.pinned.checked.prog.stopKnobs == [])=true:=by kernel_rfl
theorem plainKeys_:(true == Tryz.pinned.checked.prog.plainKeys)=true:=by kernel_rfl
theorem stopsHeard_:Tryz.pinned.checked.prog.stopsHeard=true:=by kernel_rfl
theorem laysLater_:Tryz.prog.laysLater=false:=by kernel_rfl
theorem bearsReflect_:Tryz.prog.bearsReflect=false:=by kernel_rfl
theorem doorFits_:Tryz.prog.doorFits []=true:=by kernel_rfl
theorem make_:(Tryz.pinned.checked.prog.make == some Make.cut)=true:=by
  obtain ⟨rest,h⟩:=words_eq
  have:Tryz.pinned.checked.prog.make=some Make.cut:=make_of h
  rw [this]
  rfl
theorem liftsFinal_:(false == Tryz.pinned.checked.prog.liftsFinal)=true:=by
  obtain ⟨rest,h⟩:=words_eq
  have:Tryz.pinned.checked.prog.liftsFinal=false:=liftsFinal_of h
  rw [this]
  rfl
theorem mayEnter_:Tryz.pinned.checked.prog.mayEnter=true:=by
  obtain ⟨rest,h⟩:=words_eq
  exact mayEnter_of h laysLater_ bearsReflect_ doorFits_
end Go.Proofs.YtajegiifabfcjaaGreatDoor.fact
