import Derived.Test.YtjalgpcigojpkaaGreatDoorQ27
import Derived.Test.YtjalgpcigojpkaaGreatDoorQ17
set_option maxRecDepth 99999
set_option maxHeartbeats 99999999
namespace Go.Proofs.YtjalgpcigojpkaaGreatDoor
section
open Go.RowKit
structure Seen where
 m:Int
 e:Int
 s:St
def nothing:Seen:=⟨0,0,bc⟩
def Seen.kp(x:Seen)(d:Dk):Kp:=⟨d,x.m,x.e,x.s⟩
def best (f:Nat->Seen):Nat->Seen
 | 0=>nothing
 | k+1=>if (best f k).m<(f k).m then f k else best f k
def Dh(S:Nat->Prop)(D n:Nat)(d:Dk)(z:Seen)(w:World)(e:Ending)(w':World):Prop :=
 (z.m=0->e=.returned (.tuple #[.pointer none,bg 3])/\Below w.heap.size w w') /\
 (z.m≠0->∃K a cap,e=.returned (.tuple #[.pointer (some ⟨K,0,none⟩),.nilIface])/\np S w' K D n a cap (z.kp d)/\w.heap.size<=K/\Below w.heap.size w w'/\∀b o,a=some ⟨b,o,none⟩->w.heap.size<=b)
theorem rJ{w wx:World}{K:Nat}(h:Below w.heap.size w wx)(hK:w.heap.size<=K)(v1 v2 v3 v4 v5 v6 v7:Value):Below w.heap.size w (jd wx K v1 v2 v3 v4 v5 v6 v7) :=
 ((((((h.setCell (p:=⟨K,1,none⟩) hK v1).setCell (p:=⟨K,2,none⟩) hK v2).setCell (p:=⟨K,3,none⟩) hK v3).setCell (p:=⟨K,4,none⟩) hK v4).setCell (p:=⟨K,5,none⟩) hK v5).setCell (p:=⟨K,6,none⟩) hK v6).setCell (p:=⟨K,7,none⟩) hK v7
theorem np.drew{S:Nat->Prop}{w:World}{K D n:Nat}{a:Option Addr}{cap:Nat}{k:Kp}(h:np S w K D n a cap k):np S w.drew K D n a cap k :=
 ⟨h.blk,h.dk.keeps (R:=λ_=>False) (ac.refl _ _).drew (λ_ _ h=>h),h.nk,h.lt,⟨h.str.len,h.str.rep⟩,h.ap⟩
theorem np.put{S:Nat->Prop}{wx:World}{K D n:Nat}{a a':Option Addr}{cap cap':Nat}{k:Kp}{x:Seen}(h:np S wx K D n a cap k)(hr:bj wx x.s a')(hx:∀b o,a'=some ⟨b,o,none⟩->¬ S b/\b≠K) : np S (jd wx K (.int .i64 x.m) (.int .i64 x.e) (.int .i64 x.s.gen) (.slice a' x.s.regs.length cap') (.int .i64 x.s.typ) (.int .i64 x.s.holder) (.bool x.s.stays)) K D n a' cap' (x.kp k.d):=by
 obtain⟨w',MJ⟩:=Nn (jd wx K (.int .i64 x.m) (.int .i64 x.e) (.int .i64 x.s.gen) (.slice a' x.s.regs.length cap') (.int .i64 x.s.typ) (.int .i64 x.s.holder) (.bool x.s.stays));have kk:ac (·=K) wx w':=MJ▸ll _ _ _ _ _ _ _ _ _;have hb:=MJ▸qB h.blk (.int .i64 x.m) (.int .i64 x.e) (.int .i64 x.s.gen) (.slice a' x.s.regs.length cap') (.int .i64 x.s.typ) (.int .i64 x.s.holder) (.bool x.s.stays);rw[<-MJ];exact⟨hb,h.dk.keeps kk (λb e q=>h.nk (q▸e)),h.nk,λb e=>Nat.lt_of_lt_of_le (h.lt b e) kk.size,hr.keeps kk (λb o e _=>(hx b o e).2),λb o e _=>hx b o e⟩
theorem yG(S:Nat->Prop)(w:World)(D n:Nat)(d:Dk)(f:Nat->Seen)(h:cX S w 152 197 D n d)(lt:∀b,S b->b<w.heap.size)(ok:d.ok n)(up:d.down=false)(sz:Sz d)(n6:6<=n)(hf:∀k,k<2->Lk d k (f k).m (f k).e (f k).s)(t:Tabs w) : Calls Tryz.prog 71 #[.pointer (some ⟨D,0,none⟩)] w λe w'=>Dh S D n d (best f 2) w e w':=by
 have HH:=Hx h;have LT:=Hx lt;have TT:=Hx t;have UP:=Hx up;have LOOK:=Hx (λ(w:World) (h:cX S w 152 197 D n d) (t:Tabs w) k (hk:k<2)=>Bf S w D n d k (f k).m (f k).e (f k).s h ok up sz (by omega) (hf k hk) t);have DOWN:=Hx (λ(w:World) (h:cX S w 152 197 D n d)=>zz S w D n d h);have SEC:=Hx (λ(w:World) (h:cX S w 152 197 D n d)=>lV S w D n d h);have BN:=Hx (λk (hk:k<2)=>(hf k hk).num);have n40:=ok.n40;clear h lt t sz hf up ok;obtain⟨Z,hZ2⟩:=Nm (best f 2);rw[hZ2];have HZ2:=Hx hZ2;clear hZ2;go_enter Tryz.func71,Tryz.ntmps71
 go_wp2_with fail;refine(DOWN.out _ HH.out).mono ?_;rintro e w0 ⟨rfl,rfl⟩;rw[UP.out];go_wp2_with fail;refine(SEC.out _ HH.out).mono ?_;rintro e w0 ⟨rfl,rfl⟩
 have hn6:¬ (n:Int)<6:=by omega
 have hK:w0.heap.size<=w0.heap.size:=Nat.le_refl _;have K0:=Hs (np S (w0.alloc (.cells #[.pointer (some ⟨D,0,none⟩),.int .i64 0,.int .i64 0,.int .i64 0,.slice none 0 0,.int .i64 0,.int .i64 0,.bool false] 154)) w0.heap.size D n none 0 (nothing.kp d)) (  ⟨heap_alloc_new w0 _,HH.out.below (ay w0 _),λe=>by have:=LT.out _ e; omega,λb e=>by have:=LT.out b e; simp; omega,⟨by simp[Seen.kp,nothing,bc],bE.nil _ _ _⟩,λb o e=>by cases e⟩);go_wp2;go_loopw [5,6,7,8,9,20] (λ_ _ _ _ _ i wr=>∃k:Nat,k<=2/\i=.int .i64 k/\∃a cap,np S wr w0.heap.size D n a cap ((best f k).kp d)/\Below w0.heap.size w0 wr/\∀b o,a=some ⟨b,o,none⟩->w0.heap.size<=b) (λ_ _ _ _ _ i _=>2 - (RowKit.intOf i).toNat)
 case atStart=>exact⟨0,by omega,rfl,none,0,K0.out,ay w0 _,λb o e=>by cases e⟩
 case round =>
  obtain⟨k,hk,rfl,a,cap,kr,hb,ha⟩:=hrel;have HA:=Hx ha;have KR:=Hx kr;have HB:=Hx hb;have kb:=kr.blk
  have hKlt:=(Gl kr.blk)
  clear kr hb K0 ha;by_cases lB:k<2
  .have hk2:(k:Int)<2:=by omega
   have LK:=Hx (LOOK.out wr KR.out.dk (TT.out.on HB.out) k lB);obtain⟨x,hx⟩:=Nm (f k);obtain⟨z,hz⟩:=Nm (best f k);have HX:=Hx hx;have HZ:=Hx hz;rw[hx]at LK;rw[hz]at KR kb;have STEP:=Hs (best f (k+1)=if z.m<x.m then x else z) (by rw[<-hx,<-hz]; rfl);clear hx hz LOOK;go_wp2_with fail;refine LK.out.mono ?_;rintro e w3 ⟨a',cap',rfl,hs,b3,fr⟩;obtain⟨w4,Iq⟩:=Nn (w3.alloc (.cells #[.int .i64 x.s.gen,.slice a' x.s.regs.length cap',.int .i64 x.s.typ,.int .i64 x.s.holder,.bool x.s.stays] 34));have B4:=Hs (Below wr.heap.size wr w4) (Iq▸b3.trans ((ay w3 _).mono b3.size));have K4:=Hx (KR.out.below B4.out);have S4:=Hs (bj w4 x.s a') (Iq▸hs.below (ay w3 _))
   have FR:=Hs (∀b o,a'=some ⟨b,o,none⟩->¬ S b/\b≠w0.heap.size) (λb o e=>by
    have:=fr b o e
    exact⟨λh=>by have:=LT.out b h; omega,by omega⟩)
   have FR0:=Hs (∀b o,a'=some ⟨b,o,none⟩->w0.heap.size<=b) (λb o e=>Nat.le_trans HB.out.size (fr b o e));have N4:=Hs (w4.heap[w3.heap.size]?=some (.cells #[.int .i64 x.s.gen,.slice a' x.s.regs.length cap',.int .i64 x.s.typ,.int .i64 x.s.holder,.bool x.s.stays] 34 (0,0))) (Iq▸heap_alloc_new w3 _);have Nw:=Hx b3.size;have kb3:=(KR.out.below b3).blk
   obtain⟨y1,y2,y3,y4,y5,y6,y7⟩:w3.cell? ⟨w0.heap.size,1,none⟩=some (.int .i64 z.m)/\w3.cell? ⟨w0.heap.size,2,none⟩=some (.int .i64 z.e)/\w3.cell? ⟨w0.heap.size,3,none⟩=some (.int .i64 z.s.gen)/\w3.cell? ⟨w0.heap.size,4,none⟩=some (.slice a z.s.regs.length cap)/\w3.cell? ⟨w0.heap.size,5,none⟩=some (.int .i64 z.s.typ)/\w3.cell? ⟨w0.heap.size,6,none⟩=some (.int .i64 z.s.holder)/\w3.cell? ⟨w0.heap.size,7,none⟩=some (.bool z.s.stays):=by simp[World.cell?,kb3,Seen.kp]
   have hK3:w0.heap.size<w3.heap.size:=(Gl kb3)
   clear kb3 kb hs b3 fr;by_cases hgt:z.m<x.m
   .have ST:=Hs (best f (k+1)=x) (STEP.out.trans (if_pos hgt));go_upto_region 13 with fail;rw[<-Iq];clear Iq y1 y2 y3 y4 y5 y6 y7;obtain⟨⟨r0,r1,r2,r3,r4⟩,g0,g1,g2,g3,g4⟩:=cells5 N4.out;have hKb:=K4.out.blk
    obtain⟨z1,z2,z3,z4,z5,z6,z7⟩:w4.frozen? ⟨w0.heap.size,1,none⟩=false/\w4.frozen? ⟨w0.heap.size,2,none⟩=false/\w4.frozen? ⟨w0.heap.size,3,none⟩=false/\w4.frozen? ⟨w0.heap.size,4,none⟩=false/\w4.frozen? ⟨w0.heap.size,5,none⟩=false/\w4.frozen? ⟨w0.heap.size,6,none⟩=false/\w4.frozen? ⟨w0.heap.size,7,none⟩=false:=by simp[World.frozen?,hKb]
    obtain⟨y1,y2,y3,y4,y5,y6,y7⟩:w4.cell? ⟨w0.heap.size,1,none⟩=some (.int .i64 z.m)/\w4.cell? ⟨w0.heap.size,2,none⟩=some (.int .i64 z.e)/\w4.cell? ⟨w0.heap.size,3,none⟩=some (.int .i64 z.s.gen)/\w4.cell? ⟨w0.heap.size,4,none⟩=some (.slice a z.s.regs.length cap)/\w4.cell? ⟨w0.heap.size,5,none⟩=some (.int .i64 z.s.typ)/\w4.cell? ⟨w0.heap.size,6,none⟩=some (.int .i64 z.s.holder)/\w4.cell? ⟨w0.heap.size,7,none⟩=some (.bool z.s.stays):=by simp[World.cell?,hKb,Seen.kp]
    clear hKb;obtain⟨B8,hB8⟩:=Nm w3.heap.size;rw[hB8]at N4 r0 r1 r2 r3 r4 g0 g1 g2 g3 g4 hK3 ⊢;clear hB8
    have Ik:B8≠w0.heap.size:=by omega
    have KEEP:=Hs (∀w',ac (·=w0.heap.size) w4 w'->ac (·=w0.heap.size) w4 w'/\w'.cell? ⟨B8,0,none⟩=some (.int .i64 x.s.gen)/\w'.cell? ⟨B8,1,none⟩=some (.slice a' x.s.regs.length cap')/\w'.cell? ⟨B8,2,none⟩=some (.int .i64 x.s.typ)/\w'.cell? ⟨B8,3,none⟩=some (.int .i64 x.s.holder)/\w'.cell? ⟨B8,4,none⟩=some (.bool x.s.stays)) (λw' kp=>by
     have lB:B8<w4.heap.size:=(Gl N4.out)
     have e:=λo=>kp.cell (b:=B8) (o:=o) Ik lB
     exact⟨kp,(e 0).trans r0,(e 1).trans r1,(e 2).trans r2,(e 3).trans r3,(e 4).trans r4⟩)
    go_region_held3 (λw'=>ac (·=w0.heap.size) w4 w'/\w'.cell? ⟨B8,0,none⟩=some (.int .i64 x.s.gen)/\w'.cell? ⟨B8,1,none⟩=some (.slice a' x.s.regs.length cap')/\w'.cell? ⟨B8,2,none⟩=some (.int .i64 x.s.typ)/\w'.cell? ⟨B8,3,none⟩=some (.int .i64 x.s.holder)/\w'.cell? ⟨B8,4,none⟩=some (.bool x.s.stays))
     (first|(refine KEEP.out _ ?_; first | (with_reducible exact(ac.refl _ _).drew)|(with_reducible exact(dN (ac.refl _ _) _ _).drew)|(with_reducible exact(dN (dN (ac.refl _ _) _ _) _ _).drew)|(with_reducible exact(dN (dN (dN (dN (dN (dN (dN (ac.refl _ _) _ _) _ _) _ _) _ _) _ _) _ _) _ _).drew)))
     (fail)
    go_wp2;go_roundw
    case rel=>exact⟨k+1,by omega,by go_num,a',cap',by rw[ST.out]; exact(K4.out.put S4.out FR.out).drew,(rJ (HB.out.trans (B4.out.mono HB.out.size)) (Nat.le_refl _) _ _ _ _ _ _ _).drew,FR0.out⟩
    case measure=>simp[RowKit.intOf]; omega
   .have ST:=Hs (best f (k+1)=z) (STEP.out.trans (if_neg hgt));go_wp2;rw[<-Iq];go_roundw
    case rel=>exact⟨k+1,by omega,by go_num,a,cap,by rw[ST.out]; exact K4.out,HB.out.trans (B4.out.mono HB.out.size),HA.out⟩
    case measure=>simp[RowKit.intOf]; omega
  .obtain rfl:k=2:=by omega
   rw[HZ2.out]at KR kb
   have y1:wr.cell? ⟨w0.heap.size,1,none⟩=some (.int .i64 Z.m):=by simp[World.cell?,kb,Seen.kp]
   clear kb;by_cases h0:Z.m=0
   .rw[h0]at y1;go_wp2;exact bodyPost_ret (v:=.tuple #[.pointer none,bg 3]) (by simp[results,Tryz.results71,go_sem,bg]) rfl ⟨λ_=>⟨rfl,HB.out⟩,λh=>absurd h0 h⟩
   .have q0:(Z.m == 0)=false:=by simpa using h0
    go_wp2;exact bodyPost_ret (v:=.tuple #[.pointer (some ⟨w0.heap.size,0,none⟩),.nilIface]) (by simp[results,Tryz.results71,go_sem]) rfl ⟨λh=>absurd h h0,λ_=>⟨_,a,cap,rfl,KR.out,Nat.le_refl _,HB.out,HA.out⟩⟩
def KI (n:Nat)(w:World)(X:Nat->Prop)(D K:Nat)(k:Kp)(wx:World):Prop :=
 ∃S a cap,np S wx K D n a cap k/\(∀b,S b->w.heap.size<=b)/\w.heap.size<=K/\Below w.heap.size w wx/\(∀b,X b->b<wx.heap.size/\¬ S b/\b≠K)/\∀b o,a=some ⟨b,o,none⟩->k.s.regs≠[]->¬ X b
def Same (X:Nat->Prop)(w w':World):Prop:=∀b,X b->w'.heap[b]?=w.heap[b]?
section
variable {n:Nat} {w wx w':World} {X:Nat->Prop} {D K:Nat} {k:Kp}
theorem KI.below(h:KI n w X D K k wx):Below w.heap.size w wx:=by obtain⟨_,_,_,_,_,_,h,_⟩:=h; exact h
theorem KI.lt(h:KI n w X D K k wx):∀b,X b->b<wx.heap.size:=by obtain⟨_,_,_,_,_,_,_,h,_⟩:=h; exact λb hb=>(h b hb).1
theorem KI.over(h:KI n w X D K k wx)(b:Below wx.heap.size wx w'):KI n w X D K k w':=by obtain⟨S,a,cap,kr,lo,kb,bl,hx,ax⟩:=h;exact⟨S,a,cap,kr.below b,lo,kb,bl.trans (b.mono bl.size),λc hc=>⟨Nat.lt_of_lt_of_le (hx c hc).1 b.size,(hx c hc).2⟩,ax⟩
theorem KI.drew(h:KI n w X D K k wx):KI n w X D K k wx.drew:=h.over (Below.refl _ _).drew
theorem KI.more(h:KI n w X D K k wx)(o:Obj):KI n w (λb=>X b\/b=wx.heap.size) D K k (wx.alloc o):=by
 obtain⟨S,a,cap,kr,lo,kb,bl,hx,ax⟩:=h
 have hK:=(Gl kr.blk)
 have hz:(wx.alloc o).heap.size=wx.heap.size+1:=by simp
 refine⟨S,a,cap,kr.below (ay wx o),lo,kb,bl.trans ((ay wx o).mono bl.size),λc hc=>?_,λb q e hn hX=>?_⟩
 .rcases hc with hc | rfl
  .exact⟨by have:=(hx c hc).1; omega,(hx c hc).2⟩
  .exact⟨by omega,λe=>by have:=kr.lt _ e; omega,by omega⟩
 .subst e
  rcases hX with hX | hX
  .exact ax b q rfl hn hX
  .have:=kr.str.blt hn; omega
theorem KI.set(h:KI n w X D K k wx)(kp:ac X wx w')(hX:∀b,X b->w.heap.size<=b):KI n w X D K k w':=by
 obtain⟨S,a,cap,kr,lo,kb,bl,hx,ax⟩:=h
 have hK:=(Gl kr.blk)
 exact⟨S,a,cap,⟨(kp.block K (λe=>(hx K e).2.2 rfl) hK).trans kr.blk,kr.dk.keeps kp (λb e q=>(hx b q).2.1 e),kr.nk,λb e=>Nat.lt_of_lt_of_le (kr.lt b e) kp.size,kr.str.keeps kp ax,kr.ap⟩,lo,kb,bl.trans (kp.below bl.size hX),
  λc hc=>⟨Nat.lt_of_lt_of_le (hx c hc).1 kp.size,(hx c hc).2⟩,ax⟩
end
theorem BE(n:Nat)(w wx:World)(X:Nat->Prop)(D K:Nat)(k:Kp)(a':Option Addr)(cap':Nat)(ep:Int)(s:St)(h:KI n w X D K k wx)(ok:k.d.ok n)(JW:k.d.wait.length<=900)(n6:6<=n)(h0:0<=k.num)(h1:k.num<1000000000000000)(hr:bj wx s a')(t:Tabs w) : Calls Tryz.prog 88 #[.pointer (some ⟨K,0,none⟩),.int .i64 ep,dh s a' cap'] wx λe w'=>e=.returned (bg (k.keep n ep s).2)/\KI n w X D K (k.keep n ep s).1 w'/\Same X wx w':=by
 obtain⟨S,a,cap,kr,lo,kb,bl,hx,ax⟩:=h;refine(keep_any S wx K D n a a' cap cap' k ep s kr ok JW n6 h0 h1 hr (t.on bl)).mono ?_;rintro e w' ⟨rfl,S',a2,cap2,kr2,hs,kk,ha⟩;have hsz:=bl.size;refine⟨rfl,⟨S',a2,cap2,kr2,λb hb=>?_,kb,bl.trans (kk.below bl.size (λq e=>?_)),λc hc=>⟨Nat.lt_of_lt_of_le (hx c hc).1 kk.size,λe=>?_,(hx c hc).2.2⟩,λb o e hn hX=>?_⟩,λc hc=>kk.block c (λe=>?_) (hx c hc).1⟩
 .rcases hs b hb with e | e
  .exact lo b e
  .omega
 .rcases e with e | e
  .exact lo q e
  .omega
 .rcases hs c e with e | e
  .exact(hx c hc).2.1 e
  .have:=(hx c hc).1; omega
 .have:=(hx b hX).1
  rcases ha with⟨ha,hq⟩ | ha
  .exact ax b o (ha▸e) (hq▸hn) hX
  .have:=ha b o e; omega
 .rcases e with e | e
  .exact(hx c hc).2.1 e
  .exact(hx c hc).2.2 e
theorem EI{n:Nat}{d:Dk}{num ep:Int}{s:St}(h:KD n d num ep s):∃f:Nat->Seen,(∀k,k<2->Lk d k (f k).m (f k).e (f k).s)/\best f 2=⟨num,ep,s⟩:=by
 have p1:=h.p1
 rcases h.two with⟨m,e,s',h0,h1,lB⟩ | ⟨m,e,s',h0,h1,lB⟩
 .refine⟨λk=>if k=0 then ⟨num,ep,s⟩ else ⟨m,e,s'⟩,λk hk=>?_,?_⟩
  .rcases (by omega:k=0\/k=1) with rfl | rfl
   .exact h0
   .exact h1
  .have e1:best (λk=>if k=0 then(⟨num,ep,s⟩:Seen) else ⟨m,e,s'⟩) 1=⟨num,ep,s⟩:=if_pos (show(0:Int)<num by omega);unfold best;rw[e1];exact if_neg (show ¬ num<m by omega)
 .refine⟨λk=>if k=0 then ⟨m,e,s'⟩ else ⟨num,ep,s⟩,λk hk=>?_,?_⟩
  .rcases (by omega:k=0\/k=1) with rfl | rfl
   .exact h0
   .exact h1
  .have e1:(best (λk=>if k=0 then(⟨m,e,s'⟩:Seen) else ⟨num,ep,s⟩) 1).m<num:=by
    show(if (0:Int)<m then(⟨m,e,s'⟩:Seen) else nothing).m<num
    split
    .exact lB
    .show(0:Int)<num; omega
   show(if (best (λk=>if k=0 then(⟨m,e,s'⟩:Seen) else ⟨num,ep,s⟩) 1).m<num then _ else _)=_;rw[if_pos e1];rfl
theorem D7(S:Nat->Prop)(w:World)(D n:Nat)(d:Dk)(num ep:Int)(s:St)(h:cX S w 152 197 D n d)(lt:∀b,S b->b<w.heap.size)(hk:KD n d num ep s)(sz:Sz d)(t:Tabs w) : Calls Tryz.prog 71 #[.pointer (some ⟨D,0,none⟩)] w λe w'=>∃K a cap,e=.returned (.tuple #[.pointer (some ⟨K,0,none⟩),.nilIface])/\np S w' K D n a cap ⟨d,num,ep,s⟩/\w.heap.size<=K/\Below w.heap.size w w'/\∀b o,a=some ⟨b,o,none⟩->w.heap.size<=b:=by
 obtain⟨f,hf,hb⟩:=EI hk;refine(yG S w D n d f h lt hk.ok hk.up sz hk.n6 hf t).mono ?_;intro e w' hp;rw[hb]at hp;exact hp.2 (by have:=hk.p1; show num≠0; omega)
theorem nE(n:Nat)(w wx:World)(X:Nat->Prop)(D K:Nat)(k:Kp)(h:KI n w X D K k wx)(hl:k.s.regs.length<=1000) : Calls Tryz.prog 45 #[.pointer (some ⟨K,0,none⟩)] wx λe w'=>∃a2 cap2,e=.returned (dh k.s a2 cap2)/\bj w' k.s a2/\Below wx.heap.size wx w'/\∀b o,a2=some ⟨b,o,none⟩->wx.heap.size<=b:=by
 obtain⟨S,a,cap,kr,lo,kb,bl,hx,ax⟩:=h;exact vV S wx K D n a cap k kr hl
theorem gZ(n:Nat)(w wx:World)(X:Nat->Prop)(D K:Nat)(k:Kp)(h:KI n w X D K k wx) : Calls Tryz.prog 66 #[.pointer (some ⟨K,0,none⟩)] wx λe w'=>e=.returned (.int .i64 k.ep)/\w'=wx:=by
 obtain⟨S,a,cap,kr,lo,kb,bl,hx,ax⟩:=h;exact vW S wx K D n a cap k kr
structure KG (n:Nat) (k:Kp):Prop where
 kd:KD n k.d k.num k.ep k.s
 sz:Sz k.d
theorem ke(n:Nat)(d:Dk)(p:Int)(s:ByteArray):(d.write n p s).wait.length<=d.wait.length+1:=by
 have e:=Dk.step_lists d;unfold Dk.write
 split
 .omega
 .split
  .simp
  .rw[e.2.2]; omega
theorem kN(d:Dk):d.flush.wait.length<=d.wait.length:=by
 have e:=Dk.step_lists d;unfold Dk.flush
 split
 .simp
 .rw[e.2.2]; omega
theorem Bq(n a:Nat)(d:Dk)(A B:ByteArray):(gA n d a A B).1.wait.length<=d.wait.length+3:=by
 unfold gA;dsimp only;have h1:=ke n d ((2*a:Nat):Int) ⟨#[]⟩;obtain⟨d1,hd1⟩:=Nn (d.write n ((2*a:Nat):Int) ⟨#[]⟩);rw[<-hd1]at h1 ⊢;have h2:=kN d1;obtain⟨d2,hd2⟩:=Nn d1.flush;rw[<-hd2]at h2 ⊢;have h3:=ke n d2 ((2*a+1:Nat):Int) B;obtain⟨d3,hd3⟩:=Nn (d2.write n ((2*a+1:Nat):Int) B);rw[<-hd3]at h3 ⊢;have h4:=kN d3;obtain⟨d4,hd4⟩:=Nn d3.flush;rw[<-hd4]at h4 ⊢;have h5:=ke n d4 ((2*a:Nat):Int) A;obtain⟨d5,hd5⟩:=Nn (d4.write n ((2*a:Nat):Int) A);rw[<-hd5]at h5 ⊢;have h6:=kN d5
 split
 .show d1.wait.length<=_; omega
 split
 .show d2.wait.length<=_; omega
 split
 .show d3.wait.length<=_; omega
 split
 .show d4.wait.length<=_; omega
 split
 .show d5.wait.length<=_; omega
 split
 .show d5.flush.wait.length<=_; omega
 .show d5.flush.wait.length<=_; omega
theorem yX{n:Nat}{k:Kp}{ep:Int}{s:St}(he:1<=ep/\ep<=1000000)(hs:ar s=0):k.keep n ep s=k.lay n ep s:=by unfold Kp.keep;rw[if_neg (by omega),if_neg (λh=>h hs)]
theorem BA{n:Nat}{k:Kp}(h:KG n k)(hn:k.num<1000000000000000){ep:Int}{s:St}(he:1<=ep/\ep<=1000000)(hs:ar s=0) : ((k.keep n ep s).2=0/\KG n (k.keep n ep s).1/\(k.keep n ep s).1.num=k.num+1/\(k.keep n ep s).1.ep=ep/\(k.keep n ep s).1.s=s) \/ ((k.keep n ep s).2=10/\Gg n (k.keep n ep s).1.d k.num k.ep k.s ep s/\Sz (k.keep n ep s).1.d/\(k.keep n ep s).1.d.wait.length<=3):=by
 rw[yX he hs];have hg:Good s:=(fq _).1 hs;have L:=xy h.kd hn he hg;have W:=Bq n (iy (k.num+1)) k.d (kA (k.num+1) ep s) (kB (k.num+1) ep s);have Z:Sz (gA n k.d (iy (k.num+1)) (kA (k.num+1) ep s) (kB (k.num+1) ep s)).1:=Sz.lay h.sz;rw[h.kd.wait]at W;unfold Kp.lay;dsimp only at L⊢;obtain⟨r,hr⟩:=Nm (gA n k.d (iy (k.num+1)) (kA (k.num+1) ep s) (kB (k.num+1) ep s));rw[hr]at L W Z⊢;by_cases h2:r.2=true
 .rw[if_pos h2];exact .inl ⟨rfl,⟨L.2.1 h2,Z⟩,rfl,rfl,rfl⟩
 .rw[if_neg h2];exact .inr ⟨rfl,L.2.2 (by simpa using h2),Z,by simpa using W⟩
def Gy (s:St)(x:Option Addr)(y:Nat):Array Value:=#[.int .i64 s.gen,.slice x s.regs.length y,.int .i64 s.typ,.int .i64 s.holder,.bool s.stays]
def AB (A B:Nat):Nat->Prop:=λb=>b=A\/b=B
structure TK (W:World) (A B D K:Nat) (k:Kp) (s s2:St) (x x2:Option Addr) (y y2:Nat) (wx:World):Prop where
 ki:KI 10 W (AB A B) D K k wx
 ba:wx.heap[A]?=some (.cells (Gy s x y) 34 (0,0))
 bb:wx.heap[B]?=some (.cells (Gy s2 x2 y2) 34 (0,0))
 ra:bj W s x
 rb:bj W s2 x2
 ne:A≠B
 la:W.heap.size<=A
 lb:W.heap.size<=B
section
variable {W wx w':World} {A B D K:Nat} {k:Kp} {s s2:St} {x x2:Option Addr} {y y2:Nat}
theorem TK.below(h:TK W A B D K k s s2 x x2 y y2 wx):Below W.heap.size W wx:=h.ki.below
theorem TK.over(h:TK W A B D K k s s2 x x2 y y2 wx)(b:Below wx.heap.size wx w'):TK W A B D K k s s2 x x2 y y2 w' :=
 ⟨h.ki.over b,(b.block A (h.ki.lt A (.inl rfl))).trans h.ba,(b.block B (h.ki.lt B (.inr rfl))).trans h.bb,h.ra,h.rb,h.ne,h.la,h.lb⟩
theorem TK.next{K':Nat}{k':Kp}(h:TK W A B D K k s s2 x x2 y y2 wx)(ki:KI 10 W (AB A B) D K' k' w')(sm:Same (AB A B) wx w'):TK W A B D K' k' s s2 x x2 y y2 w' :=
 ⟨ki,(sm A (.inl rfl)).trans h.ba,(sm B (.inr rfl)).trans h.bb,h.ra,h.rb,h.ne,h.la,h.lb⟩
theorem TK.lo(h:TK W A B D K k s s2 x x2 y y2 wx):∀b,AB A B b->W.heap.size<=b:=λb e=>by
 rcases e with rfl | rfl
 .exact h.la
 .exact h.lb
end
end
section
open Go.RowKit Go.Sort
structure Tm where
 K:Nat
 W:Nat
 N:Nat
 b:Bx
 fa:Option Addr
 fc:Nat
 hm:List Nat
def Ms.row(m:Ms):List Value:=[.int .i64 m.tt,.int .i64 m.at',.int .i64 m.c.e,.int .i64 m.c.n,.string m.c.d,.int .i64 m.tag]
def cq (l:List Ms):List Value:=l.flatMap Ms.row
def iC(m:Tm)(t:Tg):List Value:=[m.b.s1.v,m.b.s2.v,m.b.s3.v,m.b.s4.v,.int .i64 t.num,.int .i64 t.tag,.map (some m.W),.slice m.fa t.fly.length m.fc,.map (some m.N)]
def cY(m:Tm)(t:Tg):List Value:=.pointer (some ⟨m.K,0,none⟩) :: (t.g.arr.toList ++ iC m t)
def bY:List Wt->List Nat->List (Int × Value)
 | w :: l,h :: r=>(w.tag,.agg #[.int .i64 w.who,.int .i64 w.num,.map (some h)]) :: bY l r
 | _,_=>[]
def eh(l:List Int):List (Int × Value):=l.map λx=>(x,.bool true)
def j9(X:Nat->Prop)(w:World)(a:Option Addr)(l:List Int):Prop:=∀i (h:i<l.length),∃b o,a=some ⟨b,o,none⟩/\X b/\b<w.heap.size/\w.cell? ⟨b,o+i,none⟩=some (.int .i64 l[i])
structure ni (X:Nat->Prop) (w:World) (s:Sl) (l:List Int):Prop where
 ints:j9 X w s.a s.l
 len:s.l.length<=5
 cap:s.l.length<=s.c
 eq:s.l=l
def Tm.bx(m:Tm)(X:Nat->Prop)(T b:Nat):Prop:=X b/\b≠T/\∀o,m.fa≠some ⟨b,o,none⟩
structure fA (X:Nat->Prop) (w0 w:World) (T:Nat) (m:Tm) (t:Tg):Prop where
 blk:w.heap[T]?=some (.cells (cY m t).toArray 106 (0,0))
 ok:t.g.ok
 xt:X T
 xw:X m.W
 xn:X m.N
 wn:m.W≠m.N
 box:∀k,ni (m.bx X T) w (m.b.get k) (t.b.get k)
 wait:df w m.W (bY t.wait m.hm)
 wl:t.wait.length=m.hm.length
 have':∀i (h:i<m.hm.length) (h2:i<t.wait.length),X m.hm[i]/\m.hm[i]≠m.W/\m.hm[i]≠m.N/\df w m.hm[i] (eh t.wait[i].hv)
 apart:m.hm.Pairwise (·≠·)
 fly:w.ownsRow w0.heap.size 124 6 (.slice m.fa t.fly.length m.fc) t.fly.length (cq t.fly)
 xf:∀b o,m.fa=some ⟨b,o,none⟩->X b
 done:df w m.N (eh t.done)
def Tm.own(m:Tm)(T:Nat)(b:Nat):Prop:=b=T\/b=m.W\/b=m.N\/b∈m.hm\/(∃o,m.fa=some ⟨b,o,none⟩)\/∃k o,(m.b.get k).a=some ⟨b,o,none⟩/\(m.b.get k).l≠[]
def bR (w0:World)(n D T:Nat)(t:Tg)(Y:Nat->Prop)(w:World):Prop :=
 ∃X m,KI n w0 X D m.K t.k w/\fA X w0 w T m t/\(∀b,X b->w0.heap.size<=b)/\∀b,Y b->X b/\¬ m.own T b
theorem j9.same{X:Nat->Prop}{w w':World}{a:Option Addr}{l:List Int}(h:j9 X w a l)(sm:Same X w w')(lt:∀b,X b->b<w'.heap.size):j9 X w' a l:=by intro i hi;obtain⟨b,o,e,hx,hb,hc⟩:=h i hi;exact⟨b,o,e,hx,lt b hx,(World.cell?_of_block (w:=w) (a:=⟨b,o+i,none⟩) (sm b hx)).trans hc⟩
theorem j9.ints{X:Nat->Prop}{w:World}{a:Option Addr}{l:List Int}(h:j9 X w a l):Ints w.heap.size w a l:=by intro i hi;obtain⟨b,o,e,_,hb,hc⟩:=h i hi;exact⟨b,o,e,hb,hc⟩
theorem j9.mono{X Y:Nat->Prop}{w:World}{a:Option Addr}{l:List Int}(h:j9 X w a l)(hXY:∀b,X b->Y b):j9 Y w a l:=by intro i hi;obtain⟨b,o,e,hx,hb,hc⟩:=h i hi;exact⟨b,o,e,hXY b hx,hb,hc⟩
theorem fB.intsX{B:Nat}{w:World}{a:Option Addr}{l:List Int}(h:fB B w a l){X:Nat->Prop}(hX:∀b,B<=b->b<w.heap.size->X b):j9 X w a l:=by intro i hi;obtain⟨b,o,e,h1,h2,h3⟩:=h i hi;exact⟨b,o,e,hX b h1 h2,h2,h3⟩
theorem aV{w w':World}{B:Nat}{E:TypeId}{z:Nat}{v:Value}{k:Nat}{xs:List Value}(h:w.ownsRow B E z v k xs)(e:∀b,v.ownBlock=some b->w'.heap[b]?=w.heap[b]?):w'.ownsRow B E z v k xs:=by
 obtain⟨h1,h2⟩:=h;refine⟨h1,?_⟩
 rcases h2 with h2 | ⟨g,cap,cur,rfl,e2,e3,e4⟩
 .exact .inl h2
 .exact .inr ⟨g,cap,cur,rfl,e2,by rw[e g rfl]; exact e3,e4⟩
section
variable {X Y:Nat->Prop} {w0 w w':World} {T:Nat} {m:Tm} {t:Tg}
theorem fA.mono(h:fA X w0 w T m t)(hXY:∀b,X b->Y b):fA Y w0 w T m t :=
 ⟨h.blk,h.ok,hXY _ h.xt,hXY _ h.xw,hXY _ h.xn,h.wn,λk=>⟨(h.box k).ints.mono (λb e=>⟨hXY b e.1,e.2⟩),(h.box k).len,(h.box k).cap,(h.box k).eq⟩,h.wait,h.wl,
  λi h1 h2=>⟨hXY _ (h.have' i h1 h2).1,(h.have' i h1 h2).2⟩,h.apart,h.fly,λb o e=>hXY _ (h.xf b o e),h.done⟩
theorem fA.same(h:fA X w0 w T m t)(sm:Same X w w')(lt:∀b,X b->b<w'.heap.size):fA X w0 w' T m t :=
 ⟨(sm T h.xt).trans h.blk,h.ok,h.xt,h.xw,h.xn,h.wn,λk=>⟨(h.box k).ints.same (λb e=>sm b e.1) (λb e=>lt b e.1),(h.box k).len,(h.box k).cap,(h.box k).eq⟩,h.wait.move (sm _ h.xw),h.wl,
  λi h1 h2=>⟨(h.have' i h1 h2).1,(h.have' i h1 h2).2.1,(h.have' i h1 h2).2.2.1,(h.have' i h1 h2).2.2.2.move (sm _ (h.have' i h1 h2).1)⟩,h.apart,
  aV h.fly (λb e=>by
   cases JK:m.fa with
   | none=>rw[JK]at e; cases e
   | some p =>
    obtain⟨pb,po,ps⟩:=p;rw[JK]at e
    have:pb=b:=by simpa[Value.ownBlock] using e
    subst this;obtain⟨-,h2 | ⟨g,cap,cur,e1,-⟩⟩:=h.fly
    .rw[JK]at h2; cases h2.1
    .rw[JK]at e1;simp only[Value.slice.injEq,Option.some.injEq,Addr.mk.injEq]at e1;obtain⟨⟨rfl,rfl,rfl⟩,-⟩:=e1
     exact sm _ (h.xf _ _ JK)),h.xf,h.done.move (sm _ h.xn)⟩
theorem KI.same_of{n D K:Nat}{k:Kp}(h:KI n w0 X D K k w)(b:Below w.heap.size w w'):Same X w w':=λc hc=>b.block c (h.lt c hc)
theorem bR.over{n D:Nat}{Y:Nat->Prop}(h:bR w0 n D T t Y w)(b:Below w.heap.size w w'):bR w0 n D T t Y w':=by obtain⟨X,m,ki,tb,lo,hy⟩:=h;exact⟨X,m,ki.over b,tb.same (ki.same_of b) (ki.over b).lt,lo,hy⟩
theorem bR.below{n D:Nat}{Y:Nat->Prop}(h:bR w0 n D T t Y w):Below w0.heap.size w0 w:=by obtain⟨X,m,ki,-⟩:=h;exact ki.below
theorem bR.less{n D:Nat}{Y Y':Nat->Prop}(h:bR w0 n D T t Y w)(hY:∀b,Y' b->Y b):bR w0 n D T t Y' w:=by obtain⟨X,m,ki,tb,lo,hy⟩:=h;exact⟨X,m,ki,tb,lo,λb e=>hy b (hY b e)⟩
theorem KI.all{n D K:Nat}{k:Kp}(h:KI n w0 X D K k w)(b:Below w.heap.size w w'):KI n w0 (λc=>X c\/(w.heap.size<=c/\c<w'.heap.size)) D K k w':=by
 have h':=h.over b;obtain⟨S,a,cap,kr,lo,kb,bl,hx,ax⟩:=h
 have hK:=(Gl kr.blk)
 have hz:=b.size;refine⟨S,a,cap,kr.below b,lo,kb,bl.trans (b.mono bl.size),λc hc=>?_,λc q e hn hX=>?_⟩
 .rcases hc with hc | hc
  .exact⟨by have:=(hx c hc).1; omega,(hx c hc).2⟩
  .exact⟨hc.2,λe=>by have:=kr.lt _ e; omega,by omega⟩
 .subst e
  rcases hX with hX | hX
  .exact ax c q rfl hn hX
  .have:=kr.str.blt hn; omega
theorem dW(h:fA X w0 w T m t){b:Nat}(e:(Value.slice m.fa t.fly.length m.fc).ownBlock=some b):X b/\∃cur,w.heap[b]?=some (.cells cur 124 (0,0)):=by
 obtain⟨-,h2 | ⟨g,cap,cur,e1,_,e3,_⟩⟩:=h.fly
 .rw[h2.1]at e; cases e
 .rw[e1]at e
  have:g=b:=by simpa[Value.ownBlock] using e
  subst this
  have JK:m.fa=some ⟨g,0,none⟩:=by simp only[Value.slice.injEq]at e1;exact e1.1
  exact⟨h.xf _ _ JK,cur,e3⟩
theorem fA.turn(h:fA X w0 w T m t)(kp:ac (·=T) w w'){t':Tg}(hb:w'.heap[T]?=some (.cells (cY m t').toArray 106 (0,0)))(J0:t'.g.ok)(e1:t'.b=t.b)(e2:t'.wait=t.wait)(e3:t'.fly=t.fly)(e4:t'.done=t.done):fA X w0 w' T m t':=by
 have nT:∀ {b es cl},w.heap[b]?=some (.map es cl)->b≠T:=fun {b es cl} hm e=>by subst e; rw[h.blk]at hm; cases hm
 have mv:∀ {b:Nat} {l:List (Int × Value)},df w b l->df w' b l:=fun {b l} hm=>by obtain⟨es,cl,h1,h2⟩:=hm;exact⟨es,cl,(kp.block b (nT h1) (Gl h1)).trans h1,h2⟩
 refine⟨hb,J0,h.xt,h.xw,h.xn,h.wn,λk=>?_,by rw[e2]; exact mv h.wait,by rw[e2]; exact h.wl,λi h1 h2=>?_,h.apart,?_,h.xf,by rw[e4]; exact mv h.done⟩
 .rw[e1];refine⟨λi hi=>?_,(h.box k).len,(h.box k).cap,(h.box k).eq⟩;obtain⟨b,o,e,hx,lB,hc⟩:=(h.box k).ints i hi;exact⟨b,o,e,hx,Nat.lt_of_lt_of_le lB kp.size,(kp.cell hx.2.1 lB).trans hc⟩
 .have h2':i<t.wait.length:=by rw[<-e2]; exact h2
  obtain⟨g1,g2,g3,g4⟩:=h.have' i h1 h2';refine⟨g1,g2,g3,?_⟩
  have:t'.wait[i]=t.wait[i]:=by simp only[e2]
  rw[this];exact mv g4
 .rw[e3];refine aV h.fly (λb e=>?_);obtain⟨-,cur,hc⟩:=dW h e;refine kp.block b (λq=>?_) (Gl hc);subst q;rw[h.blk]at hc;have e7:(106:Nat)=124:=congrArg (λo:Option Obj=>match o with | some (.cells _ ty _)=>ty | _=>0) hc;exact absurd e7 (by decide)
theorem fA.setK(h:fA X w0 w T m t)(k:Kp):fA X w0 w T m { t with k:=k } :=
 ⟨h.blk,h.ok,h.xt,h.xw,h.xn,h.wn,h.box,h.wait,h.wl,h.have',h.apart,h.fly,h.xf,h.done⟩
theorem fA.own_lt(h:fA X w0 w T m t):∀b,m.own T b->b<w.heap.size:=by
 intro b e
 rcases e with rfl | rfl | rfl | e | ⟨o,e⟩ | ⟨k,o,e,Ik⟩
 .exact(Gl h.blk)
 .exact h.wait.lt
 .exact h.done.lt
 .obtain⟨i,hi,rfl⟩:=List.mem_iff_getElem.1 e;exact(h.have' i hi (by rw[h.wl]; exact hi)).2.2.2.lt
 .obtain⟨-,h2 | ⟨g,cap,cur,e1,_,e3,_⟩⟩:=h.fly
  .rw[e]at h2; cases h2.1
  .rw[e]at e1;simp only[Value.slice.injEq,Option.some.injEq,Addr.mk.injEq]at e1;obtain⟨⟨rfl,_,_⟩,_⟩:=e1;exact(Gl e3)
 .obtain⟨b',o',e',-,lB,-⟩:=(h.box k).ints 0 (List.length_pos_iff.2 Ik);rw[e]at e';cases e'
  exact lB
theorem bR.more{n D:Nat}{Y:Nat->Prop}(h:bR w0 n D T t Y w)(b:Below w.heap.size w w'):bR w0 n D T t (λc=>Y c\/(w.heap.size<=c/\c<w'.heap.size)) w':=by
 obtain⟨X,m,ki,tb,lo,hy⟩:=h;refine⟨_,m,ki.all b,(tb.same (ki.same_of b) (ki.over b).lt).mono (λc e=>.inl e),λc e=>?_,λc e=>?_⟩
 .rcases e with e | e
  .exact lo c e
  .exact Nat.le_trans ki.below.size e.1
 .rcases e with e | e
  .exact⟨.inl (hy c e).1,(hy c e).2⟩
  .exact⟨.inr e,λho=>by have:=tb.own_lt c ho; omega⟩
theorem bR.put{n D:Nat}{Y:Nat->Prop}(h:bR w0 n D T t Y w)(kp:ac Y w w'):bR w0 n D T t Y w':=by
 obtain⟨X,m,ki,tb,lo,hy⟩:=h;have so:∀b,m.own T b->w'.heap[b]?=w.heap[b]?:=λb ho=>kp.block b (λe=>(hy b e).2 ho) (tb.own_lt b ho);refine⟨X,m,ki.set (kp.mono (λb e=>(hy b e).1)) lo,?_,lo,hy⟩;refine⟨(so T (.inl rfl)).trans tb.blk,tb.ok,tb.xt,tb.xw,tb.xn,tb.wn,λk=>⟨λi hi=>?_,(tb.box k).len,(tb.box k).cap,(tb.box k).eq⟩,tb.wait.move (so _ (.inr (.inl rfl))),tb.wl,λi h1 h2=>?_,tb.apart,?_,tb.xf,tb.done.move (so _ (.inr (.inr (.inl rfl))))⟩
 .obtain⟨b,o,e,hx,lB,hc⟩:=(tb.box k).ints i hi
  have Ik:(m.b.get k).l≠[]:=λq=>by rw[q]at hi; simp at hi
  exact⟨b,o,e,hx,Nat.lt_of_lt_of_le lB kp.size,(World.cell?_of_block (w:=w) (a:=⟨b,o+i,none⟩) (so b (.inr (.inr (.inr (.inr (.inr ⟨k,o,e,Ik⟩))))))).trans hc⟩
 .obtain⟨g1,g2,g3,g4⟩:=tb.have' i h1 h2;exact⟨g1,g2,g3,g4.move (so _ (.inr (.inr (.inr (.inl (List.getElem_mem h1))))))⟩
 .refine aV tb.fly (λb e=>so b (.inr (.inr (.inr (.inr (.inl ?_))))));obtain⟨-,h2 | ⟨g,cap,cur,e1,-⟩⟩:=tb.fly
  .rw[h2.1]at e; cases e
  .rw[e1]at e
   have:g=b:=by simpa[Value.ownBlock] using e
   subst this;simp only[Value.slice.injEq]at e1;exact⟨0,e1.1⟩
end
section
variable {w:World} {T:Nat} {m:Tm} {t:Tg}
theorem xc(hg:t.g.ok)(i:Nat)(hi:i<78):(cY m t)[1+i]?=t.g.arr[i]?:=by have hz:=Gp.size hg;unfold cY;rw[show 1+i=i+1 by omega,List.getElem?_cons_succ,List.getElem?_append_left (by simp; omega),Array.getElem?_toList]
theorem vm(hg:t.g.ok)(i:Nat):(cY m t)[79+i]?=(iC m t)[i]?:=by have hz:=Gp.size hg;unfold cY;rw[show 79+i=(78+i)+1 by omega,List.getElem?_cons_succ,List.getElem?_append_right (by simp; omega)];congr 1;simp; omega
theorem aG(h:w.heap[T]?=some (.cells (cY m t).toArray 106 (0,0)))(hg:t.g.ok) : (w.cell? ⟨T,0,none⟩=some (.pointer (some ⟨m.K,0,none⟩))/\w.cell? ⟨T,79,none⟩=some m.b.s1.v/\w.cell? ⟨T,80,none⟩=some m.b.s2.v/\w.cell? ⟨T,81,none⟩=some m.b.s3.v/\w.cell? ⟨T,82,none⟩=some m.b.s4.v /\ w.cell? ⟨T,83,none⟩=some (.int .i64 t.num)/\w.cell? ⟨T,84,none⟩=some (.int .i64 t.tag)/\w.cell? ⟨T,85,none⟩=some (.map (some m.W))/\w.cell? ⟨T,86,none⟩=some (.slice m.fa t.fly.length m.fc)/\w.cell? ⟨T,87,none⟩=some (.map (some m.N))) /\ (w.frozen? ⟨T,0,none⟩=false/\w.frozen? ⟨T,79,none⟩=false/\w.frozen? ⟨T,80,none⟩=false/\w.frozen? ⟨T,81,none⟩=false/\w.frozen? ⟨T,82,none⟩=false/\w.frozen? ⟨T,83,none⟩=false/\w.frozen? ⟨T,84,none⟩=false/\w.frozen? ⟨T,85,none⟩=false/\w.frozen? ⟨T,86,none⟩=false/\w.frozen? ⟨T,87,none⟩=false):=by
 have c:∀o v,(cY m t)[o]?=some v->w.cell? ⟨T,o,none⟩=some v:=λo v e=>by simp[World.cell?,h,e]
 have f:∀o,w.frozen? ⟨T,o,none⟩=false:=λo=>by simp[World.frozen?,h]
 have q:∀i v,(iC m t)[i]?=some v->(cY m t)[79+i]?=some v:=λi v e=>(vm hg i).trans e;exact⟨⟨c 0 _ rfl,c 79 _ (q 0 _ rfl),c 80 _ (q 1 _ rfl),c 81 _ (q 2 _ rfl),c 82 _ (q 3 _ rfl),c 83 _ (q 4 _ rfl),c 84 _ (q 5 _ rfl),c 85 _ (q 6 _ rfl),c 86 _ (q 7 _ rfl),c 87 _ (q 8 _ rfl)⟩,f 0,f 79,f 80,f 81,f 82,f 83,f 84,f 85,f 86,f 87⟩
theorem eF(h:w.heap[T]?=some (.cells (cY m t).toArray 106 (0,0)))(hg:t.g.ok):w.rangeAt T 1 t.g.arr.toList/\w.there T 1 78:=by
 have hz:=Gp.size hg
 have h1:w.rangeAt T 1 t.g.arr.toList:=λj v hv=>by
  have hj:j<78:=by have:=(List.getElem?_eq_some_iff.1 hv).1;simp at this; omega
  rw[cell_of_row w T (1+j) _ _ (0,0) h,List.getElem?_toArray,xc hg j hj];simpa using hv
 refine⟨h1,λj hj=>⟨h1.isSome j (by simp; omega),?_⟩⟩;simp[World.frozen?,h]
theorem Gn(h:w.heap[T]?=some (.cells (cY m t).toArray 106 (0,0)))(hg:t.g.ok){i:Nat}(hi:i<t.g.u.length):w.cell? ⟨T,76+i,none⟩=some (.bool t.g.u[i])/\w.frozen? ⟨T,76+i,none⟩=false:=by have h3:=hg.u3;have:=Gp.atU hg hi;have e:=xc (m:=m) hg (75+i) (by omega);rw[this,show 1+(75+i)=76+i by omega]at e;simp[World.cell?,World.frozen?,h,e]
theorem Du(h:w.heap[T]?=some (.cells (cY m t).toArray 106 (0,0)))(hg:t.g.ok){g:Gp}(Nj:g.ok) : (w.setCells T 1 g.arr.toList).heap[T]?=some (.cells (cY m { t with g:=g }).toArray 106 (0,0)):=by
 have hz:=Gp.size hg;have hz':=Gp.size Nj;rw[cd _ _ _ _ h]
 have e:eK (cY m t) 1 g.arr.toList=cY m { t with g:=g }:=by unfold cY;have e1:=iK g.arr.toList [Value.pointer (some ⟨m.K,0,none⟩)] (t.g.arr.toList ++ iC m t) 0;have e2:=ij g.arr.toList t.g.arr.toList (iC m t) 0 (by simp; omega);rw[oQ (vs:=g.arr.toList) (a:=t.g.arr.toList) (by simp; omega)]at e2;rw[e2]at e1;exact e1
 rw[show(cY m t).toArray.toList=cY m t from rfl,e]
theorem Dt(h:w.heap[T]?=some (.cells (cY m t).toArray 106 (0,0)))(hg:t.g.ok){i:Nat}(hi:i<3)(b:Bool) : (w.setCell ⟨T,76+i,none⟩ (.bool b)).heap[T]?=some (.cells (cY m { t with g:=t.g.setU i b }).toArray 106 (0,0)):=by
 have hz:=Gp.size hg;rw[block_setCell h];congr 2;have e:=congrArg Array.toList (Gp.putU hg (i:=i) b);rw[Array.toList_setIfInBounds]at e;unfold cY;apply Array.toList_inj.1;rw[Array.toList_setIfInBounds];show(Value.pointer (some ⟨m.K,0,none⟩) :: (t.g.arr.toList ++ iC m t)).set (76+i) (.bool b)=_;rw[show 76+i=(75+i)+1 by omega,List.set_cons_succ,qC (by simp; omega),e];rfl
theorem iz(h:w.heap[T]?=some (.cells (cY m t).toArray 106 (0,0)))(hg:t.g.ok)(i:Nat)(v:Value){m':Tm}{t':Tg}(hk:m'.K=m.K)(hgg:t'.g=t.g)(e:(iC m t).set i v=iC m' t') : (w.setCell ⟨T,79+i,none⟩ v).heap[T]?=some (.cells (cY m' t').toArray 106 (0,0)):=by
 have hz:=Gp.size hg;rw[block_setCell h];congr 2;unfold cY;apply Array.toList_inj.1;rw[Array.toList_setIfInBounds];show(Value.pointer (some ⟨m.K,0,none⟩) :: (t.g.arr.toList ++ iC m t)).set (79+i) v=_;rw[show 79+i=(78+i)+1 by omega,List.set_cons_succ,jF (by simp; omega),show 78+i - t.g.arr.toList.length=i by simp; omega,e,hk,hgg]
end
section
variable (w0 w:World) (n D T:Nat) (t:Tg) (Y:Nat->Prop)
theorem ve(h:bR w0 n D T t Y w)(hl:t.k.s.regs.length<=1000) : Calls Tryz.prog 25 #[.pointer (some ⟨T,0,none⟩)] w λe w'=>∃a2 cap2,e=.returned (dh t.k.s a2 cap2)/\bj w' t.k.s a2/\Below w.heap.size w w'/\∀b o,a2=some ⟨b,o,none⟩->w.heap.size<=b:=by
 obtain⟨X,m,ki,tb,lo,hy⟩:=h;have c0:=(aG tb.blk tb.ok).1.1
 have hT:=(Gl tb.blk)
 have ST:=Hx (nE n w0 _ X D m.K t.k (ki.over (ay w (.cells #[.int .i64 0,.slice none 0 0,.int .i64 0,.int .i64 0,.bool false] 34))) hl);clear ki tb lo hy;go_enter Tryz.func25,Tryz.ntmps25
 go_wp2_with fail;refine ST.out.mono ?_;rintro e w2 ⟨a2,c2,rfl,hs,b2,fr⟩;have B2:=Hx ((ay w _).trans (b2.mono (by simp:w.heap.size<=(w.alloc (.cells #[.int .i64 0,.slice none 0 0,.int .i64 0,.int .i64 0,.bool false] 34)).heap.size)));have R2:=Hx ((b2.block w.heap.size (by simp)).trans (heap_alloc_new w _));have HS:=Hx hs;have FR:=Hs (∀b o,a2=some ⟨b,o,none⟩->w.heap.size+1<=b) (λb o e=>by have:=fr b o e; simpa using this);clear hs b2 fr ST;obtain⟨⟨r0,r1,r2,r3,r4⟩,g0,g1,g2,g3,g4⟩:=cells5 R2.out;unfold dh;go_wp2;refine bodyPost_ret (v:=dh t.k.s a2 c2) (ky Tryz.results25 _ _ w.heap.size 34 #[.int .i64 t.k.s.gen,.slice a2 t.k.s.regs.length c2,.int .i64 t.k.s.typ,.int .i64 t.k.s.holder,.bool t.k.s.stays] _ rfl (dF R2.out _ _ _ _ _) br.1 rfl br.2) rfl ?_;exact⟨a2,c2,rfl,HS.out.five (T:=w.heap.size) (λb o e=>by have:=FR.out b o e; omega) _ _ _ _ _,bW B2.out (Nat.le_refl _) _ _ _ _ _,λb o e=>by have:=FR.out b o e; omega⟩
theorem vq(h:bR w0 n D T t Y w) : Calls Tryz.prog 26 #[.pointer (some ⟨T,0,none⟩)] w λe w'=>e=.returned (.int .i64 t.k.ep)/\w'=w:=by
 obtain⟨X,m,ki,tb,lo,hy⟩:=h;have c0:=(aG tb.blk tb.ok).1.1;have EP:=Hx (gZ n w0 w X D m.K t.k ki);clear ki tb lo hy;go_enter Tryz.func26,Tryz.ntmps26
 go_wp2_with fail;refine EP.out.mono ?_;rintro e w1 ⟨rfl,rfl⟩;go_wp2;go_ret;exact⟨rfl,rfl⟩
theorem oa(h:bR w0 n D T t Y w) : Calls Tryz.prog 23 #[.pointer (some ⟨T,0,none⟩)] w λe w'=>e=.returned (.agg t.g.arr)/\Below w.heap.size w w':=by
 obtain⟨X,m,ki,tb,lo,hy⟩:=h;obtain⟨w1,pX⟩:=Nn (w.alloc (.cells Tryz.zeroCells69 69));have B1:=Hs (Below w.heap.size w w1) (pX▸ay w _);have HZ:=Hs (w1.heap[w.heap.size]?=some (.cells Gp.zero.arr 69 (0,0))) (pX▸aS▸heap_alloc_new _ _);have RG:=Hx (eF ((B1.out.block T (Gl tb.blk)).trans tb.blk) tb.ok).1;have ZG:=Hx (Gp.size tb.ok);clear ki tb lo hy;go_enter Tryz.func23,Tryz.ntmps23
 go_upto_region 1 with fail;rw[<-pX];clear pX;go_wp2_with (first|((with_reducible refine lI rfl 69 _ rfl ?_); refine⟨T,1,t.g.arr,_,rfl,RG.out,aj.1,rfl,by rw[aj.2,ZG.out],?_⟩)|((with_reducible refine cu rfl 69 _ _ rfl ?_); refine⟨w.heap.size,_,t.g.arr,Gp.zero.arr,rfl,rfl,HZ.out,by rw[aj.2,ZG.out],by rw[ZG.out]; rfl,Gp.one _,?_⟩));refine bodyPost_ret (v:=.agg t.g.arr) (eJ Tryz.results23 _ _ w.heap.size 69 t.g.arr (0,0) _ rfl (setRow_heap _ _ _ _ _ _ HZ.out) aj.1 rfl (by rw[aj.2,ZG.out])) rfl ?_;exact⟨rfl,aN B1.out (Nat.le_refl _) _⟩
end
