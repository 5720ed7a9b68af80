/-
  KpBest, KpKept, Tr, Tgm1
-/
import Derived.Test.YtajegiifabfcjaaGreatDoorQ26
import Derived.Test.YtajegiifabfcjaaGreatDoorQ15
namespace Go.Proofs.YtajegiifabfcjaaGreatDoor
open Go.RowKit
structure Seen where
 m:Int
 e:Int
 s:St
def nothing:Seen:=⟨0,0,sNone⟩
def Seen.kp (x:Seen) (d:Dk):Kp:=⟨d,x.m,x.e,x.s⟩
def best (f:Nat→Seen):Nat→Seen
 | 0=>nothing
 | k+1=>if (best f k).m<(f k).m then f k else best f k
def OpenPost (S:Nat→Prop) (D n:Nat) (d:Dk) (z:Seen) (w:World) (e:Ending) (w':World):Prop :=
 (z.m=0→e=.returned (.tuple #[.pointer none,errV 3])∧Below w.heap.size w w') ∧
 (z.m≠0→∃ K a cap,e=.returned (.tuple #[.pointer (some ⟨K,0,none⟩),.nilIface])∧KpR S w' K D n a cap (z.kp d)∧w.heap.size≤K∧Below w.heap.size w w'∧∀ b o,a=some ⟨b,o,none⟩→w.heap.size≤b)
theorem sevens_below {w wx:World} {K:Nat} (h:Below w.heap.size w wx) (hK:w.heap.size≤K) (v1 v2 v3 v4 v5 v6 v7:Value):Below w.heap.size w (sevens wx K v1 v2 v3 v4 v5 v6 v7) :=
 ((((((h.setCell (p:=⟨K,1,none⟩) hK v1).setCell (p:=⟨K,2,none⟩) hK v2).setCell (p:=⟨K,3,none⟩) hK v3).setCell (p:=⟨K,4,none⟩) hK v4).setCell (p:=⟨K,5,none⟩) hK v5).setCell (p:=⟨K,6,none⟩) hK v6).setCell (p:=⟨K,7,none⟩) hK v7
theorem KpR.drew {S:Nat→Prop} {w:World} {K D n:Nat} {a:Option Addr} {cap:Nat} {k:Kp} (h:KpR S w K D n a cap k):KpR S w.drew K D n a cap k :=
 ⟨h.blk,h.dk.keeps (R:=fun _=>False) (Keeps.refl _ _).drew (fun _ _ h=>h),h.nk,h.lt,⟨h.str.len,h.str.rep⟩,h.ap⟩
theorem KpR.put {S:Nat→Prop} {wx:World} {K D n:Nat} {a a':Option Addr} {cap cap':Nat} {k:Kp} {x:Seen} (h:KpR S wx K D n a cap k) (hr:StR wx x.s a') (hx:∀ b o,a'=some ⟨b,o,none⟩→¬ S b∧b≠K) :
  KpR S (sevens wx K (.int .i64 x.m) (.int .i64 x.e) (.int .i64 x.s.gen) (.slice a' x.s.regs.length cap') (.int .i64 x.s.typ) (.int .i64 x.s.holder) (.bool x.s.stays)) K D n a' cap' (x.kp k.d):=by
 obtain ⟨w',hw'⟩:∃ w',w'=sevens wx K (.int .i64 x.m) (.int .i64 x.e) (.int .i64 x.s.gen) (.slice a' x.s.regs.length cap') (.int .i64 x.s.typ) (.int .i64 x.s.holder) (.bool x.s.stays):=⟨_,rfl⟩
 have kk:Keeps (·=K) wx w':=hw'▸sevens_keeps _ _ _ _ _ _ _ _ _
 have hb:=hw'▸sevens_at h.blk (.int .i64 x.m) (.int .i64 x.e) (.int .i64 x.s.gen) (.slice a' x.s.regs.length cap') (.int .i64 x.s.typ) (.int .i64 x.s.holder) (.bool x.s.stays)
 rw [← hw']
 exact ⟨hb,h.dk.keeps kk (fun b e q=>h.nk (q▸e)),h.nk,fun b e=>Nat.lt_of_lt_of_le (h.lt b e) kk.size,hr.keeps kk (fun b o e _=>(hx b o e).2),fun b o e _=>hx b o e⟩
set_option maxRecDepth 100000 in
set_option maxHeartbeats 8000000 in
theorem open_best (S:Nat→Prop) (w:World) (D n:Nat) (d:Dk) (f:Nat→Seen) (h:DkAt S w 132 134 D n d) (lt:∀ b,S b→b<w.heap.size) (ok:d.ok n) (up:d.down=false) (sz:Sz d) (n6:6≤n) (hf:∀ k,k<2→Lk d k (f k).m (f k).e (f k).s) (t:Tabs w) :
  Calls Tryz.prog 75 #[.pointer (some ⟨D,0,none⟩)] w fun e w'=>OpenPost S D n d (best f 2) w e w':=by
 have HH:=Lib.hid h
 have LT:=Lib.hid lt
 have TT:=Lib.hid t
 have UP:=Lib.hid up
 have LOOK:=Lib.hid (fun (w:World) (h:DkAt S w 132 134 D n d) (t:Tabs w) k (hk:k<2)=>look_any S w D n d k (f k).m (f k).e (f k).s h ok up sz (by omega) (hf k hk) t)
 have DOWN:=Lib.hid (fun (w:World) (h:DkAt S w 132 134 D n d)=>ddown_any S w D n d h)
 have SEC:=Lib.hid (fun (w:World) (h:DkAt S w 132 134 D n d)=>dsectors_any S w D n d h)
 have BN:=Lib.hid (fun k (hk:k<2)=>(hf k hk).num)
 have n40:=ok.n40
 clear h lt t sz hf up ok
 obtain ⟨Z,hZ2⟩:∃ Z,best f 2=Z:=⟨_,rfl⟩
 rw [hZ2]
 have HZ2:=Lib.hid hZ2
 clear hZ2
 go_enter Tryz.func75,Tryz.ntmps75
 go_wp2_with fail
 refine (DOWN.out _ HH.out).mono ?_
 rintro e w0 ⟨rfl,rfl⟩
 rw [UP.out]
 go_wp2_with fail
 refine (SEC.out _ HH.out).mono ?_
 rintro e w0 ⟨rfl,rfl⟩
 have hn6:¬ (n:Int)<6:=by omega
 have hK:w0.heap.size≤w0.heap.size:=Nat.le_refl _
 have K0:=Lib.hid (show KpR S (w0.alloc (.cells #[.pointer (some ⟨D,0,none⟩),.int .i64 0,.int .i64 0,.int .i64 0,.slice none 0 0,.int .i64 0,.int .i64 0,.bool false] 149)) w0.heap.size D n none 0 (nothing.kp d) from
  ⟨heap_alloc_new w0 _,HH.out.below (bal w0 _),fun e=>by have:=LT.out _ e; omega,fun b e=>by have:=LT.out b e; simp; omega,⟨by simp [Seen.kp,nothing,sNone],Pairs.nil _ _ _⟩,fun b o e=>by cases e⟩)
 go_wp2
 go_loopw [5,6,7,8,9,20] (fun _ _ _ _ _ i wr=>∃ k:Nat,k≤2∧i=.int .i64 k∧∃ a cap,KpR S wr w0.heap.size D n a cap ((best f k).kp d)∧Below w0.heap.size w0 wr∧∀ b o,a=some ⟨b,o,none⟩→w0.heap.size≤b) (fun _ _ _ _ _ i _=>2 - (RowKit.intOf i).toNat)
 case atStart=>exact ⟨0,by omega,rfl,none,0,K0.out,bal w0 _,fun b o e=>by cases e⟩
 case round =>
  obtain ⟨k,hk,rfl,a,cap,kr,hb,ha⟩:=hrel
  have HA:=Lib.hid ha
  have KR:=Lib.hid kr
  have HB:=Lib.hid hb
  have kb:=kr.blk
  have hKlt:=(Array.getElem?_eq_some_iff.1 kr.blk).1
  clear kr hb K0 ha
  by_cases hlt:k<2
  ·have hk2:(k:Int)<2:=by omega
   have LK:=Lib.hid (LOOK.out wr KR.out.dk (TT.out.on HB.out) k hlt)
   obtain ⟨x,hx⟩:∃ x,f k=x:=⟨_,rfl⟩
   obtain ⟨z,hz⟩:∃ z,best f k=z:=⟨_,rfl⟩
   have HX:=Lib.hid hx
   have HZ:=Lib.hid hz
   rw [hx] at LK
   rw [hz] at KR kb
   have STEP:=Lib.hid (show best f (k+1)=if z.m<x.m then x else z from by rw [← hx,← hz]; rfl)
   clear hx hz LOOK
   go_wp2_with fail
   refine LK.out.mono ?_
   rintro e w3 ⟨a',cap',rfl,hs,b3,fr⟩
   obtain ⟨w4,hw4⟩:∃ w4,w4=w3.alloc (.cells #[.int .i64 x.s.gen,.slice a' x.s.regs.length cap',.int .i64 x.s.typ,.int .i64 x.s.holder,.bool x.s.stays] 35):=⟨_,rfl⟩
   have B4:=Lib.hid (show Below wr.heap.size wr w4 from hw4▸b3.trans ((bal w3 _).mono b3.size))
   have K4:=Lib.hid (KR.out.below B4.out)
   have S4:=Lib.hid (show StR w4 x.s a' from hw4▸hs.below (bal w3 _))
   have FR:=Lib.hid (show ∀ b o,a'=some ⟨b,o,none⟩→¬ S b∧b≠w0.heap.size from fun b o e=>by
    have:=fr b o e
    exact ⟨fun h=>by have:=LT.out b h; omega,by omega⟩)
   have FR0:=Lib.hid (show ∀ b o,a'=some ⟨b,o,none⟩→w0.heap.size≤b from fun b o e=>Nat.le_trans HB.out.size (fr b o e))
   have N4:=Lib.hid (show w4.heap[w3.heap.size]?=some (.cells #[.int .i64 x.s.gen,.slice a' x.s.regs.length cap',.int .i64 x.s.typ,.int .i64 x.s.holder,.bool x.s.stays] 35 (0,0)) from hw4▸heap_alloc_new w3 _)
   have HS3:=Lib.hid b3.size
   have kb3:=(KR.out.below b3).blk
   obtain ⟨y1,y2,y3,y4,y5,y6,y7⟩:w3.cell? ⟨w0.heap.size,1,none⟩=some (.int .i64 z.m)∧w3.cell? ⟨w0.heap.size,2,none⟩=some (.int .i64 z.e)∧w3.cell? ⟨w0.heap.size,3,none⟩=some (.int .i64 z.s.gen)∧w3.cell? ⟨w0.heap.size,4,none⟩=some (.slice a z.s.regs.length cap)∧w3.cell? ⟨w0.heap.size,5,none⟩=some (.int .i64 z.s.typ)∧w3.cell? ⟨w0.heap.size,6,none⟩=some (.int .i64 z.s.holder)∧w3.cell? ⟨w0.heap.size,7,none⟩=some (.bool z.s.stays):=by simp [World.cell?,kb3,Seen.kp]
   have hK3:w0.heap.size<w3.heap.size:=(Array.getElem?_eq_some_iff.1 kb3).1
   clear kb3 kb hs b3 fr
   by_cases hgt:z.m<x.m
   ·have ST:=Lib.hid (show best f (k+1)=x from STEP.out.trans (if_pos hgt))
    go_upto_region 13 with fail
    rw [← hw4]
    clear hw4 y1 y2 y3 y4 y5 y6 y7
    obtain ⟨⟨r0,r1,r2,r3,r4⟩,g0,g1,g2,g3,g4⟩:=cells5 N4.out
    have hKb:=K4.out.blk
    obtain ⟨z1,z2,z3,z4,z5,z6,z7⟩:w4.frozen? ⟨w0.heap.size,1,none⟩=false∧w4.frozen? ⟨w0.heap.size,2,none⟩=false∧w4.frozen? ⟨w0.heap.size,3,none⟩=false∧w4.frozen? ⟨w0.heap.size,4,none⟩=false∧w4.frozen? ⟨w0.heap.size,5,none⟩=false∧w4.frozen? ⟨w0.heap.size,6,none⟩=false∧w4.frozen? ⟨w0.heap.size,7,none⟩=false:=by simp [World.frozen?,hKb]
    obtain ⟨y1,y2,y3,y4,y5,y6,y7⟩:w4.cell? ⟨w0.heap.size,1,none⟩=some (.int .i64 z.m)∧w4.cell? ⟨w0.heap.size,2,none⟩=some (.int .i64 z.e)∧w4.cell? ⟨w0.heap.size,3,none⟩=some (.int .i64 z.s.gen)∧w4.cell? ⟨w0.heap.size,4,none⟩=some (.slice a z.s.regs.length cap)∧w4.cell? ⟨w0.heap.size,5,none⟩=some (.int .i64 z.s.typ)∧w4.cell? ⟨w0.heap.size,6,none⟩=some (.int .i64 z.s.holder)∧w4.cell? ⟨w0.heap.size,7,none⟩=some (.bool z.s.stays):=by simp [World.cell?,hKb,Seen.kp]
    clear hKb
    obtain ⟨B8,hB8⟩:∃ B,w3.heap.size=B:=⟨_,rfl⟩
    rw [hB8] at N4 r0 r1 r2 r3 r4 g0 g1 g2 g3 g4 hK3 ⊢
    clear hB8
    have hne:B8≠w0.heap.size:=by omega
    have KEEP:=Lib.hid (show ∀ w',Keeps (·=w0.heap.size) w4 w'→Keeps (·=w0.heap.size) w4 w'∧w'.cell? ⟨B8,0,none⟩=some (.int .i64 x.s.gen)∧w'.cell? ⟨B8,1,none⟩=some (.slice a' x.s.regs.length cap')∧w'.cell? ⟨B8,2,none⟩=some (.int .i64 x.s.typ)∧w'.cell? ⟨B8,3,none⟩=some (.int .i64 x.s.holder)∧w'.cell? ⟨B8,4,none⟩=some (.bool x.s.stays) from fun w' kp=>by
     have hlt:B8<w4.heap.size:=(Array.getElem?_eq_some_iff.1 N4.out).1
     have e:=fun o=>kp.cell (b:=B8) (o:=o) hne hlt
     exact ⟨kp,(e 0).trans r0,(e 1).trans r1,(e 2).trans r2,(e 3).trans r3,(e 4).trans r4⟩)
    go_region_held3 (fun w'=>Keeps (·=w0.heap.size) w4 w'∧w'.cell? ⟨B8,0,none⟩=some (.int .i64 x.s.gen)∧w'.cell? ⟨B8,1,none⟩=some (.slice a' x.s.regs.length cap')∧w'.cell? ⟨B8,2,none⟩=some (.int .i64 x.s.typ)∧w'.cell? ⟨B8,3,none⟩=some (.int .i64 x.s.holder)∧w'.cell? ⟨B8,4,none⟩=some (.bool x.s.stays))
     (first | (refine KEEP.out _ ?_; first | (with_reducible exact (Keeps.refl _ _).drew) | (with_reducible exact (kset (Keeps.refl _ _) _ _).drew) | (with_reducible exact (kset (kset (Keeps.refl _ _) _ _) _ _).drew) | (with_reducible exact (kset (kset (kset (kset (kset (kset (kset (Keeps.refl _ _) _ _) _ _) _ _) _ _) _ _) _ _) _ _).drew)))
     (fail)
    go_wp2
    go_roundw
    case rel=>exact ⟨k+1,by omega,by go_num,a',cap',by rw [ST.out]; exact (K4.out.put S4.out FR.out).drew,(sevens_below (HB.out.trans (B4.out.mono HB.out.size)) (Nat.le_refl _) _ _ _ _ _ _ _).drew,FR0.out⟩
    case measure=>simp [RowKit.intOf]; omega
   ·have ST:=Lib.hid (show best f (k+1)=z from STEP.out.trans (if_neg hgt))
    go_wp2
    rw [← hw4]
    go_roundw
    case rel=>exact ⟨k+1,by omega,by go_num,a,cap,by rw [ST.out]; exact K4.out,HB.out.trans (B4.out.mono HB.out.size),HA.out⟩
    case measure=>simp [RowKit.intOf]; omega
  ·obtain rfl:k=2:=by omega
   rw [HZ2.out] at KR kb
   have y1:wr.cell? ⟨w0.heap.size,1,none⟩=some (.int .i64 Z.m):=by simp [World.cell?,kb,Seen.kp]
   clear kb
   by_cases h0:Z.m=0
   ·rw [h0] at y1
    go_wp2
    exact bodyPost_ret (v:=.tuple #[.pointer none,errV 3]) (by simp [results,Tryz.results75,go_sem,errV]) rfl ⟨fun _=>⟨rfl,HB.out⟩,fun h=>absurd h0 h⟩
   ·have q0:(Z.m == 0)=false:=by simpa using h0
    go_wp2
    exact bodyPost_ret (v:=.tuple #[.pointer (some ⟨w0.heap.size,0,none⟩),.nilIface]) (by simp [results,Tryz.results75,go_sem]) rfl ⟨fun h=>absurd h h0,fun _=>⟨_,a,cap,rfl,KR.out,Nat.le_refl _,HB.out,HA.out⟩⟩
def KI (n:Nat) (w:World) (X:Nat→Prop) (D K:Nat) (k:Kp) (wx:World):Prop :=
 ∃ S a cap,KpR S wx K D n a cap k∧(∀ b,S b→w.heap.size≤b)∧w.heap.size≤K∧Below w.heap.size w wx∧(∀ b,X b→b<wx.heap.size∧¬ S b∧b≠K)∧∀ b o,a=some ⟨b,o,none⟩→k.s.regs≠[]→¬ X b
def Same (X:Nat→Prop) (w w':World):Prop:=∀ b,X b→w'.heap[b]?=w.heap[b]?
section
variable {n:Nat} {w wx w':World} {X:Nat→Prop} {D K:Nat} {k:Kp}
theorem KI.below (h:KI n w X D K k wx):Below w.heap.size w wx:=by obtain ⟨_,_,_,_,_,_,h,_⟩:=h; exact h
theorem KI.lt (h:KI n w X D K k wx):∀ b,X b→b<wx.heap.size:=by obtain ⟨_,_,_,_,_,_,_,h,_⟩:=h; exact fun b hb=>(h b hb).1
theorem KI.over (h:KI n w X D K k wx) (b:Below wx.heap.size wx w'):KI n w X D K k w':=by
 obtain ⟨S,a,cap,kr,lo,kb,bl,hx,ax⟩:=h
 exact ⟨S,a,cap,kr.below b,lo,kb,bl.trans (b.mono bl.size),fun c hc=>⟨Nat.lt_of_lt_of_le (hx c hc).1 b.size,(hx c hc).2⟩,ax⟩
theorem KI.drew (h:KI n w X D K k wx):KI n w X D K k wx.drew:=h.over (Below.refl _ _).drew
theorem KI.more (h:KI n w X D K k wx) (o:Obj):KI n w (fun b=>X b∨b=wx.heap.size) D K k (wx.alloc o):=by
 obtain ⟨S,a,cap,kr,lo,kb,bl,hx,ax⟩:=h
 have hK:=(Array.getElem?_eq_some_iff.1 kr.blk).1
 have hz:(wx.alloc o).heap.size=wx.heap.size+1:=by simp
 refine ⟨S,a,cap,kr.below (bal wx o),lo,kb,bl.trans ((bal wx o).mono bl.size),fun c hc=>?_,fun b q e hn hX=>?_⟩
 ·rcases hc with hc | rfl
  ·exact ⟨by have:=(hx c hc).1; omega,(hx c hc).2⟩
  ·exact ⟨by omega,fun e=>by have:=kr.lt _ e; omega,by omega⟩
 ·subst e
  rcases hX with hX | hX
  ·exact ax b q rfl hn hX
  ·have:=kr.str.blt hn; omega
theorem KI.set (h:KI n w X D K k wx) (kp:Keeps X wx w') (hX:∀ b,X b→w.heap.size≤b):KI n w X D K k w':=by
 obtain ⟨S,a,cap,kr,lo,kb,bl,hx,ax⟩:=h
 have hK:=(Array.getElem?_eq_some_iff.1 kr.blk).1
 exact ⟨S,a,cap,⟨(kp.block K (fun e=>(hx K e).2.2 rfl) hK).trans kr.blk,kr.dk.keeps kp (fun b e q=>(hx b q).2.1 e),kr.nk,fun b e=>Nat.lt_of_lt_of_le (kr.lt b e) kp.size,kr.str.keeps kp ax,kr.ap⟩,lo,kb,bl.trans (kp.below bl.size hX),
  fun c hc=>⟨Nat.lt_of_lt_of_le (hx c hc).1 kp.size,(hx c hc).2⟩,ax⟩
theorem KI.disk {S:Nat→Prop} {a:Option Addr} {cap:Nat} {d:Dk} (kr:KpR S wx K D n a cap k) (lo:∀ b,S b→w.heap.size≤b) (kb:w.heap.size≤K) (bl:Below w.heap.size w wx) (hx:∀ b,X b→b<wx.heap.size∧¬ S b∧b≠K) (ax:∀ b o,a=some ⟨b,o,none⟩→k.s.regs≠[]→¬ X b)
  (hd:DkAt S w' 132 134 D n d) (kp:Keeps S wx w'):KI n w X D K { k with d:=d } w'∧Same X wx w':=by
 refine ⟨⟨_,a,cap,kr.next (hd.mono (fun _ e=>.inl e)) kp,fun b e=>?_,kb,bl.trans (kp.below bl.size lo),fun c hc=>⟨Nat.lt_of_lt_of_le (hx c hc).1 kp.size,fun e=>?_,(hx c hc).2.2⟩,ax⟩,fun c hc=>kp.block c (hx c hc).2.1 (hx c hc).1⟩
 ·rcases e with e | e
  ·exact lo b e
  ·exact Nat.le_trans bl.size e.1
 ·rcases e with e | e
  ·exact (hx c hc).2.1 e
  ·have:=(hx c hc).1; omega
end
theorem keepI (n:Nat) (w wx:World) (X:Nat→Prop) (D K:Nat) (k:Kp) (a':Option Addr) (cap':Nat) (ep:Int) (s:St) (h:KI n w X D K k wx) (ok:k.d.ok n) (hwl:k.d.wait.length≤900) (n6:6≤n)
  (h0:0≤k.num) (h1:k.num<1000000000000000) (hr:StR wx s a') (t:Tabs w) :
  Calls Tryz.prog 96 #[.pointer (some ⟨K,0,none⟩),.int .i64 ep,stV s a' cap'] wx fun e w'=>e=.returned (errV (k.keep n ep s).2)∧KI n w X D K (k.keep n ep s).1 w'∧Same X wx w':=by
 obtain ⟨S,a,cap,kr,lo,kb,bl,hx,ax⟩:=h
 refine (keep_any S wx K D n a a' cap cap' k ep s kr ok hwl n6 h0 h1 hr (t.on bl)).mono ?_
 rintro e w' ⟨rfl,S',a2,cap2,kr2,hs,kk,ha⟩
 have hsz:=bl.size
 refine ⟨rfl,⟨S',a2,cap2,kr2,fun b hb=>?_,kb,bl.trans (kk.below bl.size (fun q e=>?_)),fun c hc=>⟨Nat.lt_of_lt_of_le (hx c hc).1 kk.size,fun e=>?_,(hx c hc).2.2⟩,fun b o e hn hX=>?_⟩,fun c hc=>kk.block c (fun e=>?_) (hx c hc).1⟩
 ·rcases hs b hb with e | e
  ·exact lo b e
  ·omega
 ·rcases e with e | e
  ·exact lo q e
  ·omega
 ·rcases hs c e with e | e
  ·exact (hx c hc).2.1 e
  ·have:=(hx c hc).1; omega
 ·have:=(hx b hX).1
  rcases ha with ⟨ha,hq⟩ | ha
  ·exact ax b o (ha▸e) (hq▸hn) hX
  ·have:=ha b o e; omega
 ·rcases e with e | e
  ·exact (hx c hc).2.1 e
  ·exact (hx c hc).2.2 e
theorem armI (n:Nat) (w wx:World) (X:Nat→Prop) (D K:Nat) (k:Kp) (p:Int) (h:KI n w X D K k wx) :
  Calls Tryz.prog 38 #[.pointer (some ⟨D,0,none⟩),.int .i64 p] wx fun e w'=>e=.returned (.tuple #[])∧KI n w X D K { k with d:={ k.d with fuse:=max p (-1) } } w'∧Same X wx w':=by
 obtain ⟨S,a,cap,kr,lo,kb,bl,hx,ax⟩:=h
 refine (darm_any S wx D n k.d p kr.dk).mono ?_
 rintro e w' ⟨rfl,hd,kp⟩
 exact ⟨rfl,KI.disk kr lo kb bl hx ax hd kp⟩
theorem restartI (n:Nat) (w wx:World) (X:Nat→Prop) (D K:Nat) (k:Kp) (keep:Int) (h:KI n w X D K k wx) (ok:k.d.ok n) (hwl:k.d.wait.length≤1000) :
  Calls Tryz.prog 39 #[.pointer (some ⟨D,0,none⟩),.int .u64 keep] wx fun e w'=>e=.returned (.tuple #[])∧KI n w X D K { k with d:=k.d.restart keep } w'∧Same X wx w':=by
 obtain ⟨S,a,cap,kr,lo,kb,bl,hx,ax⟩:=h
 refine (drestart_any S wx D n k.d keep kr.dk ok hwl).mono ?_
 rintro e w' ⟨rfl,hd,kp⟩
 exact ⟨rfl,KI.disk kr lo kb bl hx ax hd kp⟩
theorem best_kd {n:Nat} {d:Dk} {num ep:Int} {s:St} (h:KD n d num ep s):∃ f:Nat→Seen,(∀ k,k<2→Lk d k (f k).m (f k).e (f k).s)∧best f 2=⟨num,ep,s⟩:=by
 have p1:=h.p1
 rcases h.two with ⟨m,e,s',h0,h1,hlt⟩ | ⟨m,e,s',h0,h1,hlt⟩
 ·refine ⟨fun k=>if k=0 then ⟨num,ep,s⟩ else ⟨m,e,s'⟩,fun k hk=>?_,?_⟩
  ·rcases (by omega:k=0∨k=1) with rfl | rfl
   ·exact h0
   ·exact h1
  ·have e1:best (fun k=>if k=0 then (⟨num,ep,s⟩:Seen) else ⟨m,e,s'⟩) 1=⟨num,ep,s⟩:=if_pos (show (0:Int)<num by omega)
   unfold best
   rw [e1]
   exact if_neg (show ¬ num<m by omega)
 ·refine ⟨fun k=>if k=0 then ⟨m,e,s'⟩ else ⟨num,ep,s⟩,fun k hk=>?_,?_⟩
  ·rcases (by omega:k=0∨k=1) with rfl | rfl
   ·exact h0
   ·exact h1
  ·have e1:(best (fun k=>if k=0 then (⟨m,e,s'⟩:Seen) else ⟨num,ep,s⟩) 1).m<num:=by
    show (if (0:Int)<m then (⟨m,e,s'⟩:Seen) else nothing).m<num
    split
    ·exact hlt
    ·show (0:Int)<num; omega
   show (if (best (fun k=>if k=0 then (⟨m,e,s'⟩:Seen) else ⟨num,ep,s⟩) 1).m<num then _ else _)=_
   rw [if_pos e1]
   rfl
theorem open_kd (S:Nat→Prop) (w:World) (D n:Nat) (d:Dk) (num ep:Int) (s:St) (h:DkAt S w 132 134 D n d) (lt:∀ b,S b→b<w.heap.size) (hk:KD n d num ep s) (sz:Sz d) (t:Tabs w) :
  Calls Tryz.prog 75 #[.pointer (some ⟨D,0,none⟩)] w fun e w'=>∃ K a cap,e=.returned (.tuple #[.pointer (some ⟨K,0,none⟩),.nilIface])∧KpR S w' K D n a cap ⟨d,num,ep,s⟩∧w.heap.size≤K∧Below w.heap.size w w'∧∀ b o,a=some ⟨b,o,none⟩→w.heap.size≤b:=by
 obtain ⟨f,hf,hb⟩:=best_kd hk
 refine (open_best S w D n d f h lt hk.ok hk.up sz hk.n6 hf t).mono ?_
 intro e w' hp
 rw [hb] at hp
 exact hp.2 (by have:=hk.p1; show num≠0; omega)
theorem stateI2 (n:Nat) (w wx:World) (X:Nat→Prop) (D K:Nat) (k:Kp) (h:KI n w X D K k wx) (hl:k.s.regs.length≤1000) :
  Calls Tryz.prog 56 #[.pointer (some ⟨K,0,none⟩)] wx fun e w'=>∃ a2 cap2,e=.returned (stV k.s a2 cap2)∧StR w' k.s a2∧Below wx.heap.size wx w'∧∀ b o,a2=some ⟨b,o,none⟩→wx.heap.size≤b:=by
 obtain ⟨S,a,cap,kr,lo,kb,bl,hx,ax⟩:=h
 exact kstate_any S wx K D n a cap k kr hl
theorem epochI (n:Nat) (w wx:World) (X:Nat→Prop) (D K:Nat) (k:Kp) (h:KI n w X D K k wx) :
  Calls Tryz.prog 62 #[.pointer (some ⟨K,0,none⟩)] wx fun e w'=>e=.returned (.int .i64 k.ep)∧w'=wx:=by
 obtain ⟨S,a,cap,kr,lo,kb,bl,hx,ax⟩:=h
 exact kepoch_any S wx K D n a cap k kr
structure KG (n:Nat) (k:Kp):Prop where
 kd:KD n k.d k.num k.ep k.s
 sz:Sz k.d
theorem KD.arm {n:Nat} {d:Dk} {num ep:Int} {s:St} (h:KD n d num ep s) {f:Int} (h0:-1≤f) (h1:f≤9223372036854775807):KD n { d with fuse:=f } num ep s :=
 ⟨⟨h.ok.n40,h.ok.kl,h.ok.nl,h.ok.wl,h0,h1⟩,h.n6,h.up,h.wait,h.same,h.p1,h.place,h.other⟩
theorem KD.restart {n:Nat} {d:Dk} {num ep:Int} {s:St} (h:KD n d num ep s) (keep:Int):KD n (d.restart keep) num ep s:=by
 rw [restart_of h.wait]
 have hl:d.kept.length=n:=h.ok.kl
 exact h.kd_of hl (h.same▸h.place) (h.same▸h.other) (by omega)
theorem write_wait (n:Nat) (d:Dk) (p:Int) (s:ByteArray):(d.write n p s).wait.length≤d.wait.length+1:=by
 have e:=Dk.step_lists d
 unfold Dk.write
 split
 ·omega
 ·split
  ·simp
  ·rw [e.2.2]; omega
theorem flush_wait (d:Dk):d.flush.wait.length≤d.wait.length:=by
 have e:=Dk.step_lists d
 unfold Dk.flush
 split
 ·simp
 ·rw [e.2.2]; omega
theorem lay_wait (n a:Nat) (d:Dk) (A B:ByteArray):(layD n d a A B).1.wait.length≤d.wait.length+3:=by
 unfold layD
 dsimp only
 have h1:=write_wait n d ((2*a:Nat):Int) ⟨#[]⟩
 obtain ⟨d1,hd1⟩:∃ x,x=d.write n ((2*a:Nat):Int) ⟨#[]⟩:=⟨_,rfl⟩
 rw [← hd1] at h1 ⊢
 have h2:=flush_wait d1
 obtain ⟨d2,hd2⟩:∃ x,x=d1.flush:=⟨_,rfl⟩
 rw [← hd2] at h2 ⊢
 have h3:=write_wait n d2 ((2*a+1:Nat):Int) B
 obtain ⟨d3,hd3⟩:∃ x,x=d2.write n ((2*a+1:Nat):Int) B:=⟨_,rfl⟩
 rw [← hd3] at h3 ⊢
 have h4:=flush_wait d3
 obtain ⟨d4,hd4⟩:∃ x,x=d3.flush:=⟨_,rfl⟩
 rw [← hd4] at h4 ⊢
 have h5:=write_wait n d4 ((2*a:Nat):Int) A
 obtain ⟨d5,hd5⟩:∃ x,x=d4.write n ((2*a:Nat):Int) A:=⟨_,rfl⟩
 rw [← hd5] at h5 ⊢
 have h6:=flush_wait d5
 split
 ·show d1.wait.length≤_; omega
 split
 ·show d2.wait.length≤_; omega
 split
 ·show d3.wait.length≤_; omega
 split
 ·show d4.wait.length≤_; omega
 split
 ·show d5.wait.length≤_; omega
 split
 ·show d5.flush.wait.length≤_; omega
 ·show d5.flush.wait.length≤_; omega
theorem keep_good {n:Nat} {k:Kp} {ep:Int} {s:St} (he:1≤ep∧ep≤1000000) (hs:stateFault s=0):k.keep n ep s=k.lay n ep s:=by
 unfold Kp.keep
 rw [if_neg (by omega),if_neg (fun h=>h hs)]
theorem keep_law {n:Nat} {k:Kp} (h:KG n k) (hn:k.num<1000000000000000) {ep:Int} {s:St} (he:1≤ep∧ep≤1000000) (hs:stateFault s=0) :
  ((k.keep n ep s).2=0∧KG n (k.keep n ep s).1∧(k.keep n ep s).1.num=k.num+1∧(k.keep n ep s).1.ep=ep∧(k.keep n ep s).1.s=s) ∨
  ((k.keep n ep s).2=10∧Fell n (k.keep n ep s).1.d k.num k.ep k.s ep s∧Sz (k.keep n ep s).1.d∧(k.keep n ep s).1.d.wait.length≤3):=by
 rw [keep_good he hs]
 have hg:Good s:=(good_iff _).1 hs
 have L:=lay_law h.kd hn he hg
 have W:=lay_wait n (par (k.num+1)) k.d (kA (k.num+1) ep s) (kB (k.num+1) ep s)
 have Z:Sz (layD n k.d (par (k.num+1)) (kA (k.num+1) ep s) (kB (k.num+1) ep s)).1:=Sz.lay h.sz
 rw [h.kd.wait] at W
 unfold Kp.lay
 dsimp only at L ⊢
 obtain ⟨r,hr⟩:∃ r,layD n k.d (par (k.num+1)) (kA (k.num+1) ep s) (kB (k.num+1) ep s)=r:=⟨_,rfl⟩
 rw [hr] at L W Z ⊢
 by_cases h2:r.2=true
 ·rw [if_pos h2]
  exact .inl ⟨rfl,⟨L.2.1 h2,Z⟩,rfl,rfl,rfl⟩
 ·rw [if_neg h2]
  exact .inr ⟨rfl,L.2.2 (by simpa using h2),Z,by simpa using W⟩
set_option maxRecDepth 100000 in
theorem number_nil (w:World):Calls Tryz.prog 28 #[.nilIface] w fun e w'=>e=.returned (.int .i64 0)∧Below w.heap.size w w':=by
 go_enter Tryz.func28,Tryz.ntmps28
 go_wp2
 go_ret
 exact ⟨rfl,Below.refl _ _⟩
section
variable {W wx w':World} {A B D K:Nat} {k:Kp} {s s2:St} {x x2:Option Addr} {y y2:Nat}
end
end Go.Proofs.YtajegiifabfcjaaGreatDoor
namespace Go.Proofs.YtajegiifabfcjaaGreatDoor
open Go.RowKit Go.Sort
structure Tm where
 K:Nat
 W:Nat
 N:Nat
 b:Bx
 fa:Option Addr
 fc:Nat
 hm:List Nat
def Ms.row (m:Ms):List Value:=[.int .i64 m.tt,.int .i64 m.at',.int .i64 m.c.e,.int .i64 m.c.n,.string m.c.d,.int .i64 m.tag]
def flyL (l:List Ms):List Value:=l.flatMap Ms.row
def tgTail (m:Tm) (t:Tg):List Value:=[m.b.s1.v,m.b.s2.v,m.b.s3.v,m.b.s4.v,.int .i64 t.num,.int .i64 t.tag,.map (some m.W),.slice m.fa t.fly.length m.fc,.map (some m.N)]
def tgRow (m:Tm) (t:Tg):List Value:=.pointer (some ⟨m.K,0,none⟩) :: (t.g.arr.toList ++ tgTail m t)
def waitL:List Wt→List Nat→List (Int × Value)
 | w :: l,h :: r=>(w.tag,.agg #[.int .i64 w.who,.int .i64 w.num,.map (some h)]) :: waitL l r
 | _,_=>[]
def boolL (l:List Int):List (Int × Value):=l.map fun x=>(x,.bool true)
def IntsX (X:Nat→Prop) (w:World) (a:Option Addr) (l:List Int):Prop:=∀ i (h:i<l.length),∃ b o,a=some ⟨b,o,none⟩∧X b∧b<w.heap.size∧w.cell? ⟨b,o+i,none⟩=some (.int .i64 l[i])
structure SlX (X:Nat→Prop) (w:World) (s:Sl) (l:List Int):Prop where
 ints:IntsX X w s.a s.l
 len:s.l.length≤5
 cap:s.l.length≤s.c
 eq:s.l=l
def Tm.bx (m:Tm) (X:Nat→Prop) (T b:Nat):Prop:=X b∧b≠T∧∀ o,m.fa≠some ⟨b,o,none⟩
structure TgB (X:Nat→Prop) (w0 w:World) (T:Nat) (m:Tm) (t:Tg):Prop where
 blk:w.heap[T]?=some (.cells (tgRow m t).toArray 111 (0,0))
 ok:t.g.ok
 xt:X T
 xw:X m.W
 xn:X m.N
 wn:m.W≠m.N
 box:∀ k,SlX (m.bx X T) w (m.b.get k) (t.b.get k)
 wait:IMap w m.W (waitL t.wait m.hm)
 wl:t.wait.length=m.hm.length
 have':∀ i (h:i<m.hm.length) (h2:i<t.wait.length),X m.hm[i]∧m.hm[i]≠m.W∧m.hm[i]≠m.N∧IMap w m.hm[i] (boolL t.wait[i].hv)
 apart:m.hm.Pairwise (·≠·)
 fly:w.ownsRow w0.heap.size 125 6 (.slice m.fa t.fly.length m.fc) t.fly.length (flyL t.fly)
 xf:∀ b o,m.fa=some ⟨b,o,none⟩→X b
 done:IMap w m.N (boolL t.done)
def Tm.own (m:Tm) (T:Nat) (b:Nat):Prop:=b=T∨b=m.W∨b=m.N∨b∈m.hm∨(∃ o,m.fa=some ⟨b,o,none⟩)∨∃ k o,(m.b.get k).a=some ⟨b,o,none⟩∧(m.b.get k).l≠[]
def TgR (w0:World) (n D T:Nat) (t:Tg) (Y:Nat→Prop) (w:World):Prop :=
 ∃ X m,KI n w0 X D m.K t.k w∧TgB X w0 w T m t∧(∀ b,X b→w0.heap.size≤b)∧∀ b,Y b→X b∧¬ m.own T b
theorem IntsX.same {X:Nat→Prop} {w w':World} {a:Option Addr} {l:List Int} (h:IntsX X w a l) (sm:Same X w w') (lt:∀ b,X b→b<w'.heap.size):IntsX X w' a l:=by
 intro i hi
 obtain ⟨b,o,e,hx,hb,hc⟩:=h i hi
 exact ⟨b,o,e,hx,lt b hx,(World.cell?_of_block (w:=w) (a:=⟨b,o+i,none⟩) (sm b hx)).trans hc⟩
theorem IntsX.ints {X:Nat→Prop} {w:World} {a:Option Addr} {l:List Int} (h:IntsX X w a l):Ints w.heap.size w a l:=by
 intro i hi
 obtain ⟨b,o,e,_,hb,hc⟩:=h i hi
 exact ⟨b,o,e,hb,hc⟩
theorem IntsX.mono {X Y:Nat→Prop} {w:World} {a:Option Addr} {l:List Int} (h:IntsX X w a l) (hXY:∀ b,X b→Y b):IntsX Y w a l:=by
 intro i hi
 obtain ⟨b,o,e,hx,hb,hc⟩:=h i hi
 exact ⟨b,o,e,hXY b hx,hb,hc⟩
theorem HiI.intsX {B:Nat} {w:World} {a:Option Addr} {l:List Int} (h:HiI B w a l) {X:Nat→Prop} (hX:∀ b,B≤b→b<w.heap.size→X b):IntsX X w a l:=by
 intro i hi
 obtain ⟨b,o,e,h1,h2,h3⟩:=h i hi
 exact ⟨b,o,e,hX b h1 h2,h2,h3⟩
theorem ownsRow_same {w w':World} {B:Nat} {E:TypeId} {z:Nat} {v:Value} {k:Nat} {xs:List Value} (h:w.ownsRow B E z v k xs) (e:∀ b,v.ownBlock=some b→w'.heap[b]?=w.heap[b]?):w'.ownsRow B E z v k xs:=by
 obtain ⟨h1,h2⟩:=h
 refine ⟨h1,?_⟩
 rcases h2 with h2 | ⟨g,cap,cur,rfl,e2,e3,e4⟩
 ·exact .inl h2
 ·exact .inr ⟨g,cap,cur,rfl,e2,by rw [e g rfl]; exact e3,e4⟩
section
variable {X Y:Nat→Prop} {w0 w w':World} {T:Nat} {m:Tm} {t:Tg}
theorem TgB.mono (h:TgB X w0 w T m t) (hXY:∀ b,X b→Y b):TgB Y w0 w T m t :=
 ⟨h.blk,h.ok,hXY _ h.xt,hXY _ h.xw,hXY _ h.xn,h.wn,fun k=>⟨(h.box k).ints.mono (fun b e=>⟨hXY b e.1,e.2⟩),(h.box k).len,(h.box k).cap,(h.box k).eq⟩,h.wait,h.wl,
  fun i h1 h2=>⟨hXY _ (h.have' i h1 h2).1,(h.have' i h1 h2).2⟩,h.apart,h.fly,fun b o e=>hXY _ (h.xf b o e),h.done⟩
theorem TgB.same (h:TgB X w0 w T m t) (sm:Same X w w') (lt:∀ b,X b→b<w'.heap.size):TgB X w0 w' T m t :=
 ⟨(sm T h.xt).trans h.blk,h.ok,h.xt,h.xw,h.xn,h.wn,fun k=>⟨(h.box k).ints.same (fun b e=>sm b e.1) (fun b e=>lt b e.1),(h.box k).len,(h.box k).cap,(h.box k).eq⟩,h.wait.move (sm _ h.xw),h.wl,
  fun i h1 h2=>⟨(h.have' i h1 h2).1,(h.have' i h1 h2).2.1,(h.have' i h1 h2).2.2.1,(h.have' i h1 h2).2.2.2.move (sm _ (h.have' i h1 h2).1)⟩,h.apart,
  ownsRow_same h.fly (fun b e=>by
   cases hfa:m.fa with
   | none=>rw [hfa] at e; cases e
   | some p =>
    obtain ⟨pb,po,ps⟩:=p
    rw [hfa] at e
    have:pb=b:=by simpa [Value.ownBlock] using e
    subst this
    obtain ⟨-,h2 | ⟨g,cap,cur,e1,-⟩⟩:=h.fly
    ·rw [hfa] at h2; cases h2.1
    ·rw [hfa] at e1
     simp only [Value.slice.injEq,Option.some.injEq,Addr.mk.injEq] at e1
     obtain ⟨⟨rfl,rfl,rfl⟩,-⟩:=e1
     exact sm _ (h.xf _ _ hfa)),h.xf,h.done.move (sm _ h.xn)⟩
theorem KI.same_of {n D K:Nat} {k:Kp} (h:KI n w0 X D K k w) (b:Below w.heap.size w w'):Same X w w':=fun c hc=>b.block c (h.lt c hc)
theorem TgR.over {n D:Nat} {Y:Nat→Prop} (h:TgR w0 n D T t Y w) (b:Below w.heap.size w w'):TgR w0 n D T t Y w':=by
 obtain ⟨X,m,ki,tb,lo,hy⟩:=h
 exact ⟨X,m,ki.over b,tb.same (ki.same_of b) (ki.over b).lt,lo,hy⟩
theorem TgR.below {n D:Nat} {Y:Nat→Prop} (h:TgR w0 n D T t Y w):Below w0.heap.size w0 w:=by
 obtain ⟨X,m,ki,-⟩:=h
 exact ki.below
theorem TgR.less {n D:Nat} {Y Y':Nat→Prop} (h:TgR w0 n D T t Y w) (hY:∀ b,Y' b→Y b):TgR w0 n D T t Y' w:=by
 obtain ⟨X,m,ki,tb,lo,hy⟩:=h
 exact ⟨X,m,ki,tb,lo,fun b e=>hy b (hY b e)⟩
theorem KI.all {n D K:Nat} {k:Kp} (h:KI n w0 X D K k w) (b:Below w.heap.size w w'):KI n w0 (fun c=>X c∨(w.heap.size≤c∧c<w'.heap.size)) D K k w':=by
 have h':=h.over b
 obtain ⟨S,a,cap,kr,lo,kb,bl,hx,ax⟩:=h
 have hK:=(Array.getElem?_eq_some_iff.1 kr.blk).1
 have hz:=b.size
 refine ⟨S,a,cap,kr.below b,lo,kb,bl.trans (b.mono bl.size),fun c hc=>?_,fun c q e hn hX=>?_⟩
 ·rcases hc with hc | hc
  ·exact ⟨by have:=(hx c hc).1; omega,(hx c hc).2⟩
  ·exact ⟨hc.2,fun e=>by have:=kr.lt _ e; omega,by omega⟩
 ·subst e
  rcases hX with hX | hX
  ·exact ax c q rfl hn hX
  ·have:=kr.str.blt hn; omega
theorem fly_block (h:TgB X w0 w T m t) {b:Nat} (e:(Value.slice m.fa t.fly.length m.fc).ownBlock=some b):X b∧∃ cur,w.heap[b]?=some (.cells cur 125 (0,0)):=by
 obtain ⟨-,h2 | ⟨g,cap,cur,e1,_,e3,_⟩⟩:=h.fly
 ·rw [h2.1] at e; cases e
 ·rw [e1] at e
  have:g=b:=by simpa [Value.ownBlock] using e
  subst this
  have hfa:m.fa=some ⟨g,0,none⟩:=by
   simp only [Value.slice.injEq] at e1
   exact e1.1
  exact ⟨h.xf _ _ hfa,cur,e3⟩
theorem TgB.turn (h:TgB X w0 w T m t) (kp:Keeps (·=T) w w') {t':Tg} (hb:w'.heap[T]?=some (.cells (tgRow m t').toArray 111 (0,0))) (hok:t'.g.ok) (e1:t'.b=t.b) (e2:t'.wait=t.wait) (e3:t'.fly=t.fly) (e4:t'.done=t.done):TgB X w0 w' T m t':=by
 have nT:∀ {b es cl},w.heap[b]?=some (.map es cl)→b≠T:=fun {b es cl} hm e=>by subst e; rw [h.blk] at hm; cases hm
 have mv:∀ {b:Nat} {l:List (Int × Value)},IMap w b l→IMap w' b l:=fun {b l} hm=>by
  obtain ⟨es,cl,h1,h2⟩:=hm
  exact ⟨es,cl,(kp.block b (nT h1) (Array.getElem?_eq_some_iff.1 h1).1).trans h1,h2⟩
 refine ⟨hb,hok,h.xt,h.xw,h.xn,h.wn,fun k=>?_,by rw [e2]; exact mv h.wait,by rw [e2]; exact h.wl,fun i h1 h2=>?_,h.apart,?_,h.xf,by rw [e4]; exact mv h.done⟩
 ·rw [e1]
  refine ⟨fun i hi=>?_,(h.box k).len,(h.box k).cap,(h.box k).eq⟩
  obtain ⟨b,o,e,hx,hlt,hc⟩:=(h.box k).ints i hi
  exact ⟨b,o,e,hx,Nat.lt_of_lt_of_le hlt kp.size,(kp.cell hx.2.1 hlt).trans hc⟩
 ·have h2':i<t.wait.length:=by rw [← e2]; exact h2
  obtain ⟨g1,g2,g3,g4⟩:=h.have' i h1 h2'
  refine ⟨g1,g2,g3,?_⟩
  have:t'.wait[i]=t.wait[i]:=by simp only [e2]
  rw [this]
  exact mv g4
 ·rw [e3]
  refine ownsRow_same h.fly (fun b e=>?_)
  obtain ⟨-,cur,hc⟩:=fly_block h e
  refine kp.block b (fun q=>?_) (Array.getElem?_eq_some_iff.1 hc).1
  subst q
  rw [h.blk] at hc
  have e7:(111:Nat)=125:=congrArg (fun o:Option Obj=>match o with | some (.cells _ ty _)=>ty | _=>0) hc
  exact absurd e7 (by decide)
theorem TgB.setK (h:TgB X w0 w T m t) (k:Kp):TgB X w0 w T m { t with k:=k } :=
 ⟨h.blk,h.ok,h.xt,h.xw,h.xn,h.wn,h.box,h.wait,h.wl,h.have',h.apart,h.fly,h.xf,h.done⟩
theorem TgB.own_lt (h:TgB X w0 w T m t):∀ b,m.own T b→b<w.heap.size:=by
 intro b e
 rcases e with rfl | rfl | rfl | e | ⟨o,e⟩ | ⟨k,o,e,hne⟩
 ·exact (Array.getElem?_eq_some_iff.1 h.blk).1
 ·exact h.wait.lt
 ·exact h.done.lt
 ·obtain ⟨i,hi,rfl⟩:=List.mem_iff_getElem.1 e
  exact (h.have' i hi (by rw [h.wl]; exact hi)).2.2.2.lt
 ·obtain ⟨-,h2 | ⟨g,cap,cur,e1,_,e3,_⟩⟩:=h.fly
  ·rw [e] at h2; cases h2.1
  ·rw [e] at e1
   simp only [Value.slice.injEq,Option.some.injEq,Addr.mk.injEq] at e1
   obtain ⟨⟨rfl,_,_⟩,_⟩:=e1
   exact (Array.getElem?_eq_some_iff.1 e3).1
 ·obtain ⟨b',o',e',-,hlt,-⟩:=(h.box k).ints 0 (List.length_pos_iff.2 hne)
  rw [e] at e'
  cases e'
  exact hlt
theorem TgR.more {n D:Nat} {Y:Nat→Prop} (h:TgR w0 n D T t Y w) (b:Below w.heap.size w w'):TgR w0 n D T t (fun c=>Y c∨(w.heap.size≤c∧c<w'.heap.size)) w':=by
 obtain ⟨X,m,ki,tb,lo,hy⟩:=h
 refine ⟨_,m,ki.all b,(tb.same (ki.same_of b) (ki.over b).lt).mono (fun c e=>.inl e),fun c e=>?_,fun c e=>?_⟩
 ·rcases e with e | e
  ·exact lo c e
  ·exact Nat.le_trans ki.below.size e.1
 ·rcases e with e | e
  ·exact ⟨.inl (hy c e).1,(hy c e).2⟩
  ·exact ⟨.inr e,fun ho=>by have:=tb.own_lt c ho; omega⟩
end
section
variable {w:World} {T:Nat} {m:Tm} {t:Tg}
theorem tgRow_g (hg:t.g.ok) (i:Nat) (hi:i<78):(tgRow m t)[1+i]?=t.g.arr[i]?:=by
 have hz:=Gp.size hg
 unfold tgRow
 rw [show 1+i=i+1 by omega,List.getElem?_cons_succ,List.getElem?_append_left (by simp; omega),Array.getElem?_toList]
theorem tgRow_tail (hg:t.g.ok) (i:Nat):(tgRow m t)[79+i]?=(tgTail m t)[i]?:=by
 have hz:=Gp.size hg
 unfold tgRow
 rw [show 79+i=(78+i)+1 by omega,List.getElem?_cons_succ,List.getElem?_append_right (by simp; omega)]
 congr 1
 simp; omega
theorem tg_cells (h:w.heap[T]?=some (.cells (tgRow m t).toArray 111 (0,0))) (hg:t.g.ok) :
  (w.cell? ⟨T,0,none⟩=some (.pointer (some ⟨m.K,0,none⟩))∧w.cell? ⟨T,79,none⟩=some m.b.s1.v∧w.cell? ⟨T,80,none⟩=some m.b.s2.v∧w.cell? ⟨T,81,none⟩=some m.b.s3.v∧w.cell? ⟨T,82,none⟩=some m.b.s4.v ∧
   w.cell? ⟨T,83,none⟩=some (.int .i64 t.num)∧w.cell? ⟨T,84,none⟩=some (.int .i64 t.tag)∧w.cell? ⟨T,85,none⟩=some (.map (some m.W))∧w.cell? ⟨T,86,none⟩=some (.slice m.fa t.fly.length m.fc)∧w.cell? ⟨T,87,none⟩=some (.map (some m.N))) ∧
  (w.frozen? ⟨T,0,none⟩=false∧w.frozen? ⟨T,79,none⟩=false∧w.frozen? ⟨T,80,none⟩=false∧w.frozen? ⟨T,81,none⟩=false∧w.frozen? ⟨T,82,none⟩=false∧w.frozen? ⟨T,83,none⟩=false∧w.frozen? ⟨T,84,none⟩=false∧w.frozen? ⟨T,85,none⟩=false∧w.frozen? ⟨T,86,none⟩=false∧w.frozen? ⟨T,87,none⟩=false):=by
 have c:∀ o v,(tgRow m t)[o]?=some v→w.cell? ⟨T,o,none⟩=some v:=fun o v e=>by simp [World.cell?,h,e]
 have f:∀ o,w.frozen? ⟨T,o,none⟩=false:=fun o=>by simp [World.frozen?,h]
 have q:∀ i v,(tgTail m t)[i]?=some v→(tgRow m t)[79+i]?=some v:=fun i v e=>(tgRow_tail hg i).trans e
 exact ⟨⟨c 0 _ rfl,c 79 _ (q 0 _ rfl),c 80 _ (q 1 _ rfl),c 81 _ (q 2 _ rfl),c 82 _ (q 3 _ rfl),c 83 _ (q 4 _ rfl),c 84 _ (q 5 _ rfl),c 85 _ (q 6 _ rfl),c 86 _ (q 7 _ rfl),c 87 _ (q 8 _ rfl)⟩,f 0,f 79,f 80,f 81,f 82,f 83,f 84,f 85,f 86,f 87⟩
theorem tg_range (h:w.heap[T]?=some (.cells (tgRow m t).toArray 111 (0,0))) (hg:t.g.ok):w.rangeAt T 1 t.g.arr.toList∧w.there T 1 78:=by
 have hz:=Gp.size hg
 have h1:w.rangeAt T 1 t.g.arr.toList:=fun j v hv=>by
  have hj:j<78:=by
   have:=(List.getElem?_eq_some_iff.1 hv).1
   simp at this; omega
  rw [cell_of_row w T (1+j) _ _ (0,0) h,List.getElem?_toArray,tgRow_g hg j hj]
  simpa using hv
 refine ⟨h1,fun j hj=>⟨h1.isSome j (by simp; omega),?_⟩⟩
 simp [World.frozen?,h]
theorem tg_up (h:w.heap[T]?=some (.cells (tgRow m t).toArray 111 (0,0))) (hg:t.g.ok) {i:Nat} (hi:i<t.g.u.length):w.cell? ⟨T,76+i,none⟩=some (.bool t.g.u[i])∧w.frozen? ⟨T,76+i,none⟩=false:=by
 have h3:=hg.u3
 have:=Gp.atU hg hi
 have e:=tgRow_g (m:=m) hg (75+i) (by omega)
 rw [this,show 1+(75+i)=76+i by omega] at e
 simp [World.cell?,World.frozen?,h,e]
theorem tg_setG (h:w.heap[T]?=some (.cells (tgRow m t).toArray 111 (0,0))) (hg:t.g.ok) {g:Gp} (hg':g.ok) :
  (w.setCells T 1 g.arr.toList).heap[T]?=some (.cells (tgRow m { t with g:=g }).toArray 111 (0,0)):=by
 have hz:=Gp.size hg
 have hz':=Gp.size hg'
 rw [block_setCells _ _ _ _ h]
 have e:putL (tgRow m t) 1 g.arr.toList=tgRow m { t with g:=g }:=by
  unfold tgRow
  have e1:=putL_right g.arr.toList [Value.pointer (some ⟨m.K,0,none⟩)] (t.g.arr.toList ++ tgTail m t) 0
  have e2:=putL_left g.arr.toList t.g.arr.toList (tgTail m t) 0 (by simp; omega)
  rw [putL_all (vs:=g.arr.toList) (a:=t.g.arr.toList) (by simp; omega)] at e2
  rw [e2] at e1
  exact e1
 rw [show (tgRow m t).toArray.toList=tgRow m t from rfl,e]
theorem tg_setU (h:w.heap[T]?=some (.cells (tgRow m t).toArray 111 (0,0))) (hg:t.g.ok) {i:Nat} (hi:i<3) (b:Bool) :
  (w.setCell ⟨T,76+i,none⟩ (.bool b)).heap[T]?=some (.cells (tgRow m { t with g:=t.g.setU i b }).toArray 111 (0,0)):=by
 have hz:=Gp.size hg
 rw [block_setCell h]
 congr 2
 have e:=congrArg Array.toList (Gp.putU hg (i:=i) b)
 rw [Array.toList_setIfInBounds] at e
 unfold tgRow
 apply Array.toList_inj.1
 rw [Array.toList_setIfInBounds]
 show (Value.pointer (some ⟨m.K,0,none⟩) :: (t.g.arr.toList ++ tgTail m t)).set (76+i) (.bool b)=_
 rw [show 76+i=(75+i)+1 by omega,List.set_cons_succ,set_app_l (by simp; omega),e]
 rfl
theorem tg_set (h:w.heap[T]?=some (.cells (tgRow m t).toArray 111 (0,0))) (hg:t.g.ok) (i:Nat) (v:Value) {m':Tm} {t':Tg} (hk:m'.K=m.K) (hgg:t'.g=t.g) (e:(tgTail m t).set i v=tgTail m' t') :
  (w.setCell ⟨T,79+i,none⟩ v).heap[T]?=some (.cells (tgRow m' t').toArray 111 (0,0)):=by
 have hz:=Gp.size hg
 rw [block_setCell h]
 congr 2
 unfold tgRow
 apply Array.toList_inj.1
 rw [Array.toList_setIfInBounds]
 show (Value.pointer (some ⟨m.K,0,none⟩) :: (t.g.arr.toList ++ tgTail m t)).set (79+i) v=_
 rw [show 79+i=(78+i)+1 by omega,List.set_cons_succ,set_app_r (by simp; omega),show 78+i - t.g.arr.toList.length=i by simp; omega,e,hk,hgg]
end
section
variable (w0 w:World) (n D T:Nat) (t:Tg) (Y:Nat→Prop)
set_option maxRecDepth 100000 in
set_option maxHeartbeats 1000000 in
theorem tstate_any (h:TgR w0 n D T t Y w) (hl:t.k.s.regs.length≤1000) :
  Calls Tryz.prog 23 #[.pointer (some ⟨T,0,none⟩)] w fun e w'=>∃ a2 cap2,e=.returned (stV t.k.s a2 cap2)∧StR w' t.k.s a2∧Below w.heap.size w w'∧∀ b o,a2=some ⟨b,o,none⟩→w.heap.size≤b:=by
 obtain ⟨X,m,ki,tb,lo,hy⟩:=h
 have c0:=(tg_cells tb.blk tb.ok).1.1
 have hT:=(Array.getElem?_eq_some_iff.1 tb.blk).1
 have ST:=Lib.hid (stateI2 n w0 _ X D m.K t.k (ki.over (bal w (.cells #[.int .i64 0,.slice none 0 0,.int .i64 0,.int .i64 0,.bool false] 35))) hl)
 clear ki tb lo hy
 go_enter Tryz.func23,Tryz.ntmps23
 go_wp2_with fail
 refine ST.out.mono ?_
 rintro e w2 ⟨a2,c2,rfl,hs,b2,fr⟩
 have B2:=Lib.hid ((bal w _).trans (b2.mono (by simp:w.heap.size≤(w.alloc (.cells #[.int .i64 0,.slice none 0 0,.int .i64 0,.int .i64 0,.bool false] 35)).heap.size)))
 have R2:=Lib.hid ((b2.block w.heap.size (by simp)).trans (heap_alloc_new w _))
 have HS:=Lib.hid hs
 have FR:=Lib.hid (show ∀ b o,a2=some ⟨b,o,none⟩→w.heap.size+1≤b from fun b o e=>by have:=fr b o e; simpa using this)
 clear hs b2 fr ST
 obtain ⟨⟨r0,r1,r2,r3,r4⟩,g0,g1,g2,g3,g4⟩:=cells5 R2.out
 unfold stV
 go_wp2
 refine bodyPost_ret (v:=stV t.k.s a2 c2) (results_r1 Tryz.results23 _ _ w.heap.size 35 #[.int .i64 t.k.s.gen,.slice a2 t.k.s.regs.length c2,.int .i64 t.k.s.typ,.int .i64 t.k.s.holder,.bool t.k.s.stays] _ rfl (five_at R2.out _ _ _ _ _) state_row.1 rfl state_row.2) rfl ?_
 exact ⟨a2,c2,rfl,HS.out.five (T:=w.heap.size) (fun b o e=>by have:=FR.out b o e; omega) _ _ _ _ _,five_below B2.out (Nat.le_refl _) _ _ _ _ _,fun b o e=>by have:=FR.out b o e; omega⟩
set_option maxRecDepth 100000 in
set_option maxHeartbeats 1000000 in
theorem tgroup_any (h:TgR w0 n D T t Y w) :
  Calls Tryz.prog 25 #[.pointer (some ⟨T,0,none⟩)] w fun e w'=>e=.returned (.agg t.g.arr)∧Below w.heap.size w w':=by
 obtain ⟨X,m,ki,tb,lo,hy⟩:=h
 obtain ⟨w1,hw1⟩:∃ w1,w1=w.alloc (.cells Tryz.zeroCells60 60):=⟨_,rfl⟩
 have B1:=Lib.hid (show Below w.heap.size w w1 from hw1▸bal w _)
 have HZ:=Lib.hid (show w1.heap[w.heap.size]?=some (.cells Gp.zero.arr 60 (0,0)) from hw1▸gp_zero_arr▸heap_alloc_new _ _)
 have RG:=Lib.hid (tg_range ((B1.out.block T (Array.getElem?_eq_some_iff.1 tb.blk).1).trans tb.blk) tb.ok).1
 have ZG:=Lib.hid (Gp.size tb.ok)
 clear ki tb lo hy
 go_enter Tryz.func25,Tryz.ntmps25
 go_upto_region 1 with fail
 rw [← hw1]
 clear hw1
 go_wp2_with (first | ((with_reducible refine ld_mid1 rfl 60 _ rfl ?_); refine ⟨T,1,t.g.arr,_,rfl,RG.out,gp_row.1,rfl,by rw [gp_row.2,ZG.out],?_⟩) | ((with_reducible refine st_row1 rfl 60 _ _ rfl ?_); refine ⟨w.heap.size,_,t.g.arr,Gp.zero.arr,rfl,rfl,HZ.out,by rw [gp_row.2,ZG.out],by rw [ZG.out]; rfl,Gp.one _,?_⟩))
 refine bodyPost_ret (v:=.agg t.g.arr) (results_row1 Tryz.results25 _ _ w.heap.size 60 t.g.arr (0,0) _ rfl (setRow_heap _ _ _ _ _ _ HZ.out) gp_row.1 rfl (by rw [gp_row.2,ZG.out])) rfl ?_
 exact ⟨rfl,below_setRow' B1.out (Nat.le_refl _) _⟩
end
end Go.Proofs.YtajegiifabfcjaaGreatDoor
