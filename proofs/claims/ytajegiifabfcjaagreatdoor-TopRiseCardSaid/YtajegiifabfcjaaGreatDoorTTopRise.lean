/-
  TopRise: the walk.
-/
import Derived.Test.YtajegiifabfcjaaGreatDoorTTgNw
import Derived.Test.YtajegiifabfcjaaGreatDoorTRiseP
namespace Go.Proofs.YtajegiifabfcjaaGreatDoor
open Go.RowKit Go.Sort
theorem two_start {t:Tg} (h:TI 10 (·=Cel.zero) 3 t) (k:Nat):Two Cel.zero k t.g :=
 ⟨0,1,by omega,by omega,.inl (valG_S h.al h.fa.z k 0),.inl (valG_S h.al h.fa.z k 1)⟩
set_option maxRecDepth 100000 in
set_option maxHeartbeats 40000000 in
theorem toprise_walk (l:List Ac) (a:Option Addr) (cap:Nat) (i:Int) (w:World) (hl:l.length≤maxLen) (hr:ActsAt w a l) (tt:Tabs w) :
  Calls Tryz.prog 3 #[.slice a l.length cap,.int .i64 i] w fun e w'=>e=.returned (.bool true)∧Below w.heap.size w w':=by
 have TT:=Lib.hid tt
 have HR:=Lib.hid hr
 have WK:=Lib.hid (works_any w tt)
 have LA:=Lib.hid (fun w' (b:RowKit.Below w.heap.size w w')=>lightacts_any l a cap 80 w' hl (hr.below b))
 have OP:=Lib.hid (fun w' (b:RowKit.Below w.heap.size w w')=>opened_any w' (Tabs.on tt b))
 unfold maxLen at hl
 clear tt hr
 go_enter Tryz.func3,Tryz.ntmps3
 go_wp2_with fail
 refine WK.out.mono ?_
 rintro e w1 ⟨rfl,b1⟩
 have B1:=Lib.hid b1
 have LA1:=Lib.hid (LA.out w1 b1)
 clear b1 WK LA
 go_wp2_with fail
 refine LA1.out.mono ?_
 rintro e w2 ⟨lb,rfl,hlb,b2⟩
 have B2:=Lib.hid (show RowKit.Below w.heap.size w w2 from B1.out.trans (b2.mono B1.out.size))
 have OP2:=Lib.hid (OP.out w2 B2.out)
 clear b2 OP LA1 B1
 cases lb
 ·clear hlb OP2
  go_wp2
  go_ret
  exact ⟨rfl,B2.out⟩
 have HL:=Lib.hid (hlb rfl).1
 clear hlb
 by_cases hi0:i<0
 ·clear OP2
  go_wp2
  go_ret
  exact ⟨rfl,B2.out⟩
 by_cases hi7:7<i
 ·clear OP2
  go_wp2
  go_ret
  exact ⟨rfl,B2.out⟩
 go_wp2_with fail
 refine OP2.out.mono ?_
 rintro e w3 ⟨D,T,d,rfl,h3,j3⟩
 have H3:=Lib.hid h3
 have J3:=Lib.hid j3
 clear h3 j3 OP2
 obtain ⟨k,rfl⟩:∃ k:Nat,i=(k:Int):=⟨i.toNat,by omega⟩
 have HK8:=Lib.hid (show k<8 from by omega)
 clear hi0 hi7
 have CF:=Lib.hid (rd_fault (who:=1) (at':=(k:Int)) (by omega) (by have:=HK8.out; omega))
 obtain ⟨w4,hw4⟩:∃ w4,w4=w3.alloc (.cells Cel.zero.cells 30):=⟨_,rfl⟩
 have B4:=Lib.hid (show RowKit.Below w3.heap.size w3 w4 from hw4▸bal w3 _)
 have E4:=Lib.hid (show w4.heap[w3.heap.size]?=some (.cells Cel.zero.cells 30 (0,0)) from hw4▸heap_alloc_new w3 _)
 rw [cel_zero_arr] at hw4
 go_upto_region 10 with fail
 rw [← hw4]
 clear hw4
 have H4:=Lib.hid (show TgR w2 10 D T (tg0 d) (fun c=>c=w3.heap.size) w4 from (H3.out.more B4.out).less (fun b e=>.inr ⟨by omega,by have:=(Array.getElem?_eq_some_iff.1 E4.out).1; omega⟩))
 obtain ⟨SB,hSB⟩:∃ V,w3.heap.size=V:=⟨_,rfl⟩
 rw [hSB] at E4 H4 ⊢
 clear hSB B4 H3
 have TW0:=Lib.hid (two_start J3.out.ti k)
 go_wp2
 go_loopw [7,9] (fun v i wr=>∃ (j:Nat) (T:Nat) (t:Tg) (S:Cel→Prop) (seen:Cel),j≤l.length∧v=.pointer (some ⟨T,0,none⟩)∧i=.int .i64 j∧TgR w2 10 D T t (fun c=>c=SB) wr∧TJ 10 S (3+2*(j:Int)) t∧wr.heap[SB]?=some (.cells seen.cells 30 (0,0))∧Two seen k t.g) (fun _ i _=>l.length - (intOf i).toNat)
 case atStart=>exact ⟨0,T,tg0 d,_,Cel.zero,by omega,rfl,rfl,H4.out,J3.out,E4.out,TW0.out⟩
 case round =>
 obtain ⟨j,T,t,S,seen,hj,rfl,rfl,hT,hJ,hE,h2⟩:=hrel
 have HT:=Lib.hid hT
 have HJ:=Lib.hid hJ
 have HE:=Lib.hid hE
 have H2:=Lib.hid h2
 clear hT hJ hE h2 H4 J3 E4 TW0
 have BR:=Lib.hid (show RowKit.Below w.heap.size w wr from B2.out.trans (HT.out.below.mono B2.out.size))
 by_cases hlt:j<l.length
 case neg =>
  go_wp2
  go_ret
  exact ⟨rfl,BR.out⟩
 have h80:=HL.out
 have hj80:j<80:=by omega
 obtain ⟨ok,xb,xo,rfl,hb,hrange⟩:=HR.out j hlt
 have hci:=ok.ci
 unfold maxLen at hci
 obtain ⟨X,hX⟩:∃ X,l[j]=X:=⟨_,rfl⟩
 rw [hX] at hrange hci
 have HRG:=Lib.hid (show wr.rangeAt xb (xo+j*19) X.cells from fun j v hv=>(BR.out.cell (p:=⟨xb,_,none⟩) hb).trans (hrange j v hv))
 have PLAY:=Lib.hid (play_any w2 wr D T t (fun c=>c=SB) S _ X HT.out HJ.out (by omega) hci (TT.out.on B2.out))
 obtain ⟨S',-,hj'⟩:=HJ.out.play (by omega) X
 have JU:=Lib.hid (show TJ 10 S' (3+2*((j+1:Nat):Int)) (t.play 10 X) from hj'.mono (by omega))
 have U2:=Lib.hid ((play_move HJ.out.ti (by omega) X).two HJ.out.ti HK8.out H2.out)
 clear hrange hX ok hci h80 hb hj'
 go_wp2_with ((with_reducible refine ld_mid1 rfl 39 _ rfl ?_); refine ⟨xb,xo+j*19,X.cells.toArray,_,rfl,HRG.out,act_row.1,rfl,act_row.2,?_⟩)
 refine PLAY.out.mono ?_
 rintro e w5 ⟨T',rfl,h5,s5,-⟩
 obtain ⟨u,hu⟩:∃ u,t.play 10 X=u:=⟨_,rfl⟩
 rw [hu] at h5 JU U2
 have H5:=Lib.hid h5
 have E5:=Lib.hid ((s5 SB rfl).trans HE.out)
 clear h5 s5 hu PLAY HRG HT HJ HE H2
 have ASK:=Lib.hid (tpask_any w2 w5 D T' u (fun c=>c=SB) S' _ (cRd 1 (k:Int)) H5.out JU.out (by omega) ⟨by show 0≤9223372036854775807; omega,by show 0≤9223372036854775807; omega⟩ (TT.out.on B2.out))
 have TI2:=Lib.hid (read_ti JU.out.ti CF.out rfl)
 have TW2:=Lib.hid (read_two JU.out.ti HK8.out U2.out CF.out (by show (7:Int)≤7; omega))
 obtain ⟨r,hr⟩:∃ r,u.askN 10 (cRd 1 (k:Int)) 6=r:=⟨_,rfl⟩
 have LAW:=Lib.hid (fun he=>rise_read JU.out.ti HK8.out U2.out CF.out rfl rfl hr he)
 rw [hr] at ASK TI2 TW2
 have JR:=Lib.hid (show TJ 10 S' (3+2*((j+1:Nat):Int)) r.1 from ⟨TI2.out,by rw [← hr,askN_six JU.out.ti CF.out]; exact sz_ask (t:=u.deaf (cRd 1 (k:Int)).who) JU.out.sz _⟩)
 clear hr TI2
 go_wp2_with fail
 refine ASK.out.mono ?_
 rintro e w6 ⟨rfl,h6,s6⟩
 dsimp only
 have H6:=Lib.hid h6
 have E6:=Lib.hid ((s6 SB rfl).trans E5.out)
 clear h6 s6 ASK H5 E5
 obtain ⟨z,hz⟩:∃ u,r.1=u:=⟨_,rfl⟩
 obtain ⟨s,hs⟩:∃ s,r.2.1=s:=⟨_,rfl⟩
 obtain ⟨f,hff⟩:∃ f,r.2.2.2=f:=⟨_,rfl⟩
 rw [hz] at H6 JR TW2 LAW
 rw [hs] at LAW ⊢
 rw [hff] at LAW ⊢
 clear hz hs hff
 by_cases hf0:f=0
 case neg =>
  rw [errV_some hf0]
  clear hf0
  go_wp2
  go_roundw
  case rel=>exact ⟨j+1,T',z,S',seen,by omega,rfl,by go_num,H6.out,JR.out,E6.out,TW2.out⟩
  case measure=>simp [intOf]; omega
 obtain ⟨-,hmo,hnw,hsd,htw⟩:=LAW.out hf0
 have NWC:=Lib.hid (newest_any w2 w6 10 D T' z _ k H6.out HK8.out)
 obtain ⟨c,hc⟩:∃ c,z.newest k=c:=⟨_,rfl⟩
 rw [hc] at NWC hnw hsd htw
 rw [hmo] at NWC
 have NW:=Lib.hid (fun (w:World)=>newer_x hnw w)
 have TWC:=Lib.hid htw
 have HSD:=Lib.hid hsd
 rw [hf0,errV_nil]
 clear hf0 hmo hnw hsd htw hc LAW
 go_wp2_with fail
 refine NWC.out.mono ?_
 rintro e w7 ⟨rfl,b7⟩
 dsimp only [Cel.cells]
 obtain ⟨w8,hw8⟩:∃ w8,w8=w7.alloc (.cells #[.int .i64 c.e,.int .i64 c.n,.string c.d] 30):=⟨_,rfl⟩
 have B8:=Lib.hid (show RowKit.Below w6.heap.size w6 w8 from b7.trans ((hw8▸bal w7 _:RowKit.Below w7.heap.size w7 w8).mono b7.size))
 have C8:=Lib.hid (show w8.heap[w7.heap.size]?=some (.cells c.cells 30 (0,0)) from hw8▸heap_alloc_new w7 _)
 have E8:=Lib.hid ((B8.out.block SB (Array.getElem?_eq_some_iff.1 E6.out).1).trans E6.out)
 go_upto_region 17 with fail
 rw [← hw8]
 obtain ⟨CB,hCB⟩:∃ V,w7.heap.size=V:=⟨_,rfl⟩
 rw [hCB] at C8 ⊢
 clear hw8 hCB b7 NWC
 go_wp2_with ((with_reducible refine ld_row_g1 30 _ rfl ?_); first | refine ⟨by rfl,SB,_,seen.cells,_,rfl,E8.out,cell_row.1,rfl,cell_row.2,?_⟩ | refine ⟨by rfl,CB,_,c.cells,_,rfl,C8.out,cell_row.1,rfl,cell_row.2,?_⟩)
 refine (NW.out _).mono ?_
 rintro e w9 ⟨rfl,b9⟩
 have B9:=Lib.hid (show RowKit.Below w6.heap.size w6 w9 from B8.out.trans (b9.mono B8.out.size))
 have C9:=Lib.hid ((b9.block CB (Array.getElem?_eq_some_iff.1 C8.out).1).trans C8.out)
 have E9:=Lib.hid ((b9.block SB (Array.getElem?_eq_some_iff.1 E8.out).1).trans E8.out)
 have H9:=Lib.hid (H6.out.over B9.out)
 have P9:=Lib.hid (show TgR w2 10 D T' z (fun c=>c=SB) (w9.setRow SB c.cells) from H9.out.put ((Keeps.refl (fun c=>c=SB) w9).setRow rfl _))
 clear b9 NW B8 C8 E8 E6
 obtain ⟨x0,x1,x2⟩:=cell_box C9.out
 have hsd:(s.toList == c.d.toList)=true:=by rw [HSD.out]; simp
 go_wp2_with (first | ((with_reducible refine ld_row1 rfl 30 _ rfl ?_); refine ⟨CB,_,c.cells,_,rfl,C9.out,cell_row.1,rfl,cell_row.2,?_⟩) | ((with_reducible refine st_row1 rfl 30 _ _ rfl ?_); refine ⟨SB,_,c.cells,_,rfl,rfl,E9.out,cell_row.2,rfl,cel_one _,?_⟩))
 go_roundw
 case rel=>exact ⟨j+1,T',z,S',c,by omega,rfl,by go_num,P9.out,JR.out,setRow_heap _ _ _ _ _ _ E9.out,TWC.out⟩
 case measure=>simp [intOf]; omega
end Go.Proofs.YtajegiifabfcjaaGreatDoor
