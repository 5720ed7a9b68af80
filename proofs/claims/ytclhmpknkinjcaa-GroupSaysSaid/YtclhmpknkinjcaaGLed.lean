/-
  Contracts: led, grouped.
-/
import Derived.Test.YtclhmpknkinjcaaGRead
import Derived.Test.YtclhmpknkinjcaaLightActs
namespace Go.Proofs.Ytclhmpknkinjcaa
open Go.RowKit Go.Sort

def sUp : ByteArray := ⟨#[117, 112]⟩
def sDown : ByteArray := ⟨#[100, 111, 119, 110]⟩
def sFence : ByteArray := ⟨#[102, 101, 110, 99, 101]⟩
def sSync : ByteArray := ⟨#[115, 121, 110, 99]⟩
structure Led where
  g : Gp
  ep : Nat
  n : Nat
def ledStep (s : Led) (x : Ac) : Led :=
  if x.kind = sUp ∨ x.kind = sDown then ⟨s.g.setU x.a.toNat (decide (x.kind = sUp)), s.ep, s.n⟩
  else if x.kind = sFence then (if 2 ≤ ((s.g.fence (s.ep + 1)).mem (s.ep + 1)).length then ⟨s.g.fence (s.ep + 1), s.ep + 1, s.n⟩ else s)
  else if x.kind = sSync then ⟨s.g.sync s.ep x.a.toNat, s.ep, s.n⟩
  else ⟨s.g.deliver x.a.toNat x.b.toNat ⟨s.ep, s.n + 1, x.s⟩, s.ep, s.n + 1⟩
def ledAll (l : List Ac) : Led := l.foldl ledStep ⟨Gp.start, 1, 0⟩
theorem ledAll_snoc (l : List Ac) (x : Ac) : ledAll (l ++ [x]) = ledStep (ledAll l) x := by simp [ledAll]
theorem ledAll_take {l : List Ac} {k : Nat} (h : k < l.length) : ledAll (l.take (k + 1)) = ledStep (ledAll (l.take k)) l[k] := by
  rw [List.take_succ_eq_append_getElem h, ledAll_snoc]

/-- a group in a block of its own, the result's place ahead of it -/
structure LD (w : World) (G : Nat) (g : Gp) (wx : World) : Prop where
  below : Below w.heap.size w wx
  ok : g.ok
  hG : wx.heap[G]? = some (.cells g.arr 40 (0, 0))
  hZ : wx.heap[w.heap.size]? = some (.cells Gp.zero.arr 40 (0, 0))
  lo : w.heap.size < G
theorem LD.lt {w wx : World} {G : Nat} {g : Gp} (f : LD w G g wx) : G < wx.heap.size := (Array.getElem?_eq_some_iff.1 f.hG).1
theorem LD.over {w wx w' : World} {G : Nat} {g : Gp} (f : LD w G g wx) (b : Below wx.heap.size wx w') : LD w G g w' :=
  ⟨f.below.trans (b.mono f.below.size), f.ok, (b.block _ f.lt).trans f.hG, (b.block _ (Array.getElem?_eq_some_iff.1 f.hZ).1).trans f.hZ, f.lo⟩
theorem LD.put {w wx : World} {G : Nat} {g : Gp} (f : LD w G g wx) {h : Gp} (ok : h.ok) : LD w G h (wx.setRow G h.arr) := by
  have kp := (Keeps.refl (· = G) wx).setRow (g := G) rfl h.arr
  have := f.lo
  exact ⟨f.below.trans (kp.below f.below.size (fun m hm => by omega)), ok, setRow_heap _ _ _ _ _ _ f.hG, (kp.block _ (by omega) (Array.getElem?_eq_some_iff.1 f.hZ).1).trans f.hZ, f.lo⟩
theorem LD.setU {w wx : World} {G : Nat} {g : Gp} (f : LD w G g wx) (i : Nat) (b : Bool) : LD w G (g.setU i b) (wx.setCell ⟨G, 75 + i, none⟩ (.bool b)) := by
  have kp := (Keeps.refl (· = G) wx).setCell (p := ⟨G, 75 + i, none⟩) rfl (.bool b)
  have := f.lo
  exact ⟨f.below.trans (kp.below f.below.size (fun m hm => by omega)), f.ok.setU i b, gp_setU f.hG f.ok b, (kp.block _ (by omega) (Array.getElem?_eq_some_iff.1 f.hZ).1).trans f.hZ, f.lo⟩
theorem LD.done {w wx : World} {G : Nat} {g : Gp} (f : LD w G g wx) (cs : Array Value) : Below w.heap.size w (wx.setRow w.heap.size cs) :=
  f.below.trans (((Keeps.refl (· = w.heap.size) wx).setRow rfl _).below f.below.size (fun m hm => by omega))
theorem act_row : Try.prog.underlying 51 = some (.struct (Try.prog.fieldsOf 51)) ∧ (Try.prog.info? 51).map (·.size) = some 19 := by constructor <;> kernel_rfl
theorem act_one (x : Ac) : x.cells.toArray.all (·.oneCell') = true := by
  apply all_oneCell_toArray
  intro v hv
  simp only [Ac.cells, List.mem_cons, List.mem_nil_iff, or_false] at hv
  rcases hv with rfl | rfl | rfl | rfl | rfl | rfl | rfl | rfl | rfl | rfl | rfl | rfl | rfl | rfl | rfl | rfl | rfl | rfl | rfl <;> rfl

theorem kd_up (kd : ByteArray) : (kd.toList == [117, 112]) = decide (kd = sUp) := by rw [← ba_beq, show sUp.toList = [117, 112] from by rw [ByteArray.toList_eq]; rfl]
theorem kd_down (kd : ByteArray) : (kd.toList == [100, 111, 119, 110]) = decide (kd = sDown) := by rw [← ba_beq, show sDown.toList = [100, 111, 119, 110] from by rw [ByteArray.toList_eq]; rfl]
theorem kd_fence (kd : ByteArray) : (kd.toList == [102, 101, 110, 99, 101]) = decide (kd = sFence) := by rw [← ba_beq, show sFence.toList = [102, 101, 110, 99, 101] from by rw [ByteArray.toList_eq]; rfl]
theorem kd_sync (kd : ByteArray) : (kd.toList == [115, 121, 110, 99]) = decide (kd = sSync) := by rw [← ba_beq, show sSync.toList = [115, 121, 110, 99] from by rw [ByteArray.toList_eq]; rfl]
theorem down_up : sDown ≠ sUp := by decide +kernel
theorem built_cell (c : Cel) : Try.prog.built 23 [(0, .int .i64 c.e), (1, .int .i64 c.n), (2, .string c.d)] = some c.cells := by kernel_rfl
theorem built_msg (x y : Int) (c : Cel) : Try.prog.built 66 [(0, .int .i64 x), (1, .int .i64 y), (2, .agg c.cells)] = some (msgC x y c 0) := by kernel_rfl
theorem results_row_tmps {P : Program} {fn : Func} {p q r : Tmp} {ty : TypeId} (h : fn.results = #[.cell p ty, .tmp q, .tmp r]) (tmps : Array Value) (w : World) (g : Nat) (t : TypeId) (cs : Array Value) (d : TypeDesc) (v u : Value)
    (hp : tmps.getD p undef = .pointer (some ⟨g, 0, none⟩)) (hq : tmps.getD q undef = v) (hr : tmps.getD r undef = u) (hg : w.heap[g]? = some (.cells cs t (0, 0)))
    (hu : P.underlying ty = some d) (hd : (match d with | .struct _ | .array _ _ => true | _ => false) = true) (hi : (P.info? ty).map (·.size) = some cs.size) :
    (results fn tmps).run P w = .ok (.tuple #[.agg cs, v, u]) w := by
  have hp' : tmps[p]?.getD undef = .pointer (some ⟨g, 0, none⟩) := by simpa using hp
  have hq' : tmps[q]?.getD undef = v := by simpa using hq
  have hr' : tmps[r]?.getD undef = u := by simpa using hr
  simp [results, h, hp', hq', hr', asAddr, run_loadVar_row w g t ty cs (0, 0) d hg hu hd hi]
def actZ : Array Value := #[.string ⟨#[]⟩, .int .i64 0, .int .i64 0, .string ⟨#[]⟩, .int .u64 0, .int .i64 0, .slice none 0 0, .int .i64 0, .int .i64 0, .bool false, .int .i64 0, .int .i64 0, .int .i64 0, .int .i64 0, .int .i64 0, .int .i64 0, .bool false, .string ⟨#[]⟩, .string ⟨#[]⟩]
theorem act_box {w : World} {V : Nat} {x : Ac} {T : TypeId} (h : w.heap[V]? = some (.cells x.cells.toArray T (0, 0))) : w.cell? ⟨V, 0, none⟩ = some (.string x.kind) ∧ w.cell? ⟨V, 1, none⟩ = some (.int .i64 x.a) ∧ w.cell? ⟨V, 2, none⟩ = some (.int .i64 x.b) ∧ w.cell? ⟨V, 3, none⟩ = some (.string x.s) ∧ w.cell? ⟨V, 4, none⟩ = some (.int .u64 x.k) ∧ w.cell? ⟨V, 5, none⟩ = some (.int .i64 x.st.gen) ∧ w.cell? ⟨V, 7, none⟩ = some (.int .i64 x.st.typ) := by
  have := act_cells (o := 0) (range_of h)
  simp only [Nat.zero_add] at this
  exact ⟨this.1.1, this.1.2.1, this.1.2.2.1, this.1.2.2.2.1, this.1.2.2.2.2, this.2.1.1, this.2.1.2.2.1⟩

def LedPost (l : List Ac) (w : World) (e : Ending) (w' : World) : Prop :=
  ∃ (g : Gp) (ep : Nat) (ok : Bool), e = .returned (.tuple #[.agg g.arr, .int .i64 ep, .bool ok]) ∧ g.ok ∧ (ok = true → g = (ledAll l).g ∧ ep = (ledAll l).ep ∧ 1 ≤ ep ∧ ep ≤ l.length + 1) ∧ Below w.heap.size w w'
theorem LedPost.mk {l : List Ac} {w : World} {e : Ending} {w' : World} (g : Gp) (ep : Nat) (ok : Bool) (h : e = .returned (.tuple #[.agg g.arr, .int .i64 ep, .bool ok])) (hg : g.ok) (hk : ok = true → g = (ledAll l).g ∧ ep = (ledAll l).ep ∧ 1 ≤ ep ∧ ep ≤ l.length + 1) (b : Below w.heap.size w w') : LedPost l w e w' := ⟨g, ep, ok, h, hg, hk, b⟩

set_option maxRecDepth 100000 in
set_option maxHeartbeats 1000000 in
theorem led_any (l : List Ac) (a : Option Addr) (cap : Nat) (w : World) (hl : l.length ≤ 100) (hr : ActsAt w a l) :
    Calls Try.prog 70 #[.slice a l.length cap] w (LedPost l w) := by
  have HR := Lib.hid hr
  clear hr
  go_enter Try.func70, Try.ntmps70
  go_upto_region 1 with fail
  obtain ⟨w1, hw1⟩ : ∃ w1, w1 = w.alloc (.cells Gp.zero.arr 40) := ⟨_, rfl⟩
  rw [← gp_zero_arr] at hw1
  rw [← hw1]
  rw [gp_zero_arr] at hw1
  have HB1 := Lib.hid (show Below w.heap.size w w1 from hw1 ▸ bal w _)
  have HZ1 := Lib.hid (show w1.heap[w.heap.size]? = some (.cells Gp.zero.arr 40 (0, 0)) from hw1 ▸ heap_alloc_new w _)
  clear hw1
  go_wp2_with fail
  refine (gnew_any _).mono ?_
  rintro e w2 ⟨rfl, b2⟩
  obtain ⟨S, hS⟩ : ∃ S, Gp.start = S := ⟨_, rfl⟩
  rw [hS]
  have SOK := Lib.hid (show S.ok from hS ▸ startTo_ok 3 (by omega))
  have HS := Lib.hid hS
  have ZS := Lib.hid (Gp.size SOK.out)
  have HB2 := Lib.hid (HB1.out.trans (b2.mono HB1.out.size))
  have HZ2 := Lib.hid ((b2.block _ (Array.getElem?_eq_some_iff.1 HZ1.out).1).trans HZ1.out)
  clear hS b2 HB1 HZ1
  go_upto_region 2 with ((with_reducible refine st_row1 rfl 40 _ _ rfl ?_); refine ⟨w2.heap.size, _, S.arr, Gp.zero.arr, rfl, rfl, (show (w2.alloc (.cells Try.zeroCells40 40)).heap[w2.heap.size]? = some (.cells Gp.zero.arr 40 (0, 0)) from gp_zero_arr ▸ heap_alloc_new w2 _), by rw [gp_row.2, ZS.out], by rw [ZS.out]; rfl, Gp.one _, ?_⟩)
  obtain ⟨w3, hw3⟩ : ∃ w3, w3 = (w2.alloc (.cells Try.zeroCells40 40)).setRow w2.heap.size S.arr := ⟨_, rfl⟩
  rw [← hw3]
  have L3 := Lib.hid (show LD w w2.heap.size S w3 from by
    have b3 : Below w2.heap.size w2 w3 := hw3 ▸ bel_row w2 _ _ _
    exact ⟨HB2.out.trans (b3.mono HB2.out.size), SOK.out, hw3 ▸ setRow_heap _ _ _ _ _ _ (heap_alloc_new w2 _), (b3.block _ (Array.getElem?_eq_some_iff.1 HZ2.out).1).trans HZ2.out, (Array.getElem?_eq_some_iff.1 HZ2.out).1⟩)
  clear hw3
  obtain ⟨G, hG⟩ : ∃ G, w2.heap.size = G := ⟨_, rfl⟩
  rw [hG] at L3
  rw [hG]
  clear hG HB2 HZ2
  go_wp2
  go_loopw [6, 7, 8] (fun ep n i wr => ∃ (k : Nat) (s : Led), k ≤ l.length ∧ i = .int .i64 k ∧ s = ledAll (l.take k) ∧ ep = .int .i64 s.ep ∧ n = .int .i64 s.n ∧ 1 ≤ s.ep ∧ s.ep ≤ k + 1 ∧ s.n ≤ k ∧ LD w G s.g wr) (fun _ _ i _ => l.length - (intOf i).toNat)
  case atStart => exact ⟨0, ⟨S, 1, 0⟩, by omega, rfl, by rw [← HS.out]; rfl, rfl, rfl, by simp, by simp, by simp, L3.out⟩
  case round =>
    obtain ⟨k, ⟨g, ep, n⟩, hk, rfl, hs, rfl, rfl, he1, he2, hn, ld⟩ := hrel
    have HS := Lib.hid hs
    have LDH := Lib.hid ld
    dsimp only at he1 he2 hn
    clear hs ld L3
    by_cases hlt : k < l.length
    · obtain ⟨ok, b, o, rfl, hb, hrange⟩ := HR.out k hlt
      have HST := Lib.hid (show ledAll (l.take (k + 1)) = ledStep ⟨g, ep, n⟩ l[k] from by rw [ledAll_take hlt, ← HS.out])
      have hrg : wr.rangeAt b (o + k * 19) l[k].cells := fun j v hv => (LDH.out.below.cell (p := ⟨b, _, none⟩) hb).trans (hrange j v hv)
      obtain ⟨X, hX⟩ : ∃ X, l[k] = X := ⟨_, rfl⟩
      rw [hX] at hrg HST ok
      have HRG := Lib.hid hrg
      have OKX := Lib.hid ok
      clear hrange hX hrg ok
      go_upto_region 8 with (first | ((with_reducible refine ld_mid1 rfl 51 _ rfl ?_); refine ⟨b, o + k * 19, X.cells.toArray, _, rfl, HRG.out, act_row.1, rfl, act_row.2, ?_⟩) | ((with_reducible refine st_row1 rfl 51 _ _ rfl ?_); refine ⟨wr.heap.size, _, X.cells.toArray, _, rfl, rfl, heap_alloc_new wr _, act_row.2, rfl, act_one X, ?_⟩))
      obtain ⟨w4, hw4⟩ : ∃ w4, w4 = (wr.alloc (.cells actZ 51)).setRow wr.heap.size X.cells.toArray := ⟨_, rfl⟩
      have hw4' := hw4
      unfold actZ at hw4
      rw [← hw4]
      clear hw4
      have L4 := Lib.hid (show LD w G g w4 from hw4' ▸ LDH.out.over (bel_row wr _ _ _))
      have HV4 := Lib.hid (show w4.heap[wr.heap.size]? = some (.cells X.cells.toArray 51 (0, 0)) from hw4' ▸ setRow_heap _ _ _ _ _ _ (heap_alloc_new wr _))
      have hVG : G < wr.heap.size := LDH.out.lt
      clear hw4'
      obtain ⟨V, hV⟩ : ∃ V, wr.heap.size = V := ⟨_, rfl⟩
      rw [hV] at HV4 hVG
      rw [hV]
      clear hV LDH HRG
      obtain ⟨c0, c1, c2, c3, -⟩ := act_box HV4.out
      have ZG := Lib.hid (Gp.size L4.out.ok)
      obtain ⟨xa, hxa⟩ : ∃ xa, X.a = xa := ⟨_, rfl⟩
      obtain ⟨xb, hxb⟩ : ∃ xb, X.b = xb := ⟨_, rfl⟩
      obtain ⟨kd, hkd⟩ : ∃ kd, X.kind = kd := ⟨_, rfl⟩
      rw [hxa] at c1
      rw [hxb] at c2
      rw [hkd] at c0
      have HXA := Lib.hid hxa
      have HXB := Lib.hid hxb
      have HXK := Lib.hid hkd
      clear hxa hxb hkd
      by_cases bad : xa < 0 ∨ 3 ≤ xa ∨ xb < 0 ∨ 7 < xb
      · clear HST
        by_cases b1 : xa < 0
        · clear bad
          go_wp2_with (first | ((with_reducible refine ld_row1 rfl 40 _ rfl ?_); refine ⟨G, _, g.arr, _, rfl, L4.out.hG, gp_row.1, rfl, by rw [gp_row.2, ZG.out], ?_⟩) | ((with_reducible refine st_row1 rfl 40 _ _ rfl ?_); refine ⟨w.heap.size, _, g.arr, _, rfl, rfl, L4.out.hZ, by rw [gp_row.2, ZG.out], by rw [ZG.out]; rfl, Gp.one _, ?_⟩))
          refine bodyPost_ret (v := .tuple #[.agg g.arr, .int .i64 (0 : Nat), .bool false]) (results_row_tmps Try.results70 _ _ w.heap.size 40 g.arr _ _ _ rfl rfl rfl (setRow_heap _ _ _ _ _ _ L4.out.hZ) gp_row.1 rfl (by rw [gp_row.2, ZG.out])) rfl ?_
          exact LedPost.mk g 0 false rfl L4.out.ok (fun h => absurd h (by decide)) (L4.out.done _)
        by_cases b2 : 3 ≤ xa
        · clear bad
          go_wp2_with (first | ((with_reducible refine ld_row1 rfl 40 _ rfl ?_); refine ⟨G, _, g.arr, _, rfl, L4.out.hG, gp_row.1, rfl, by rw [gp_row.2, ZG.out], ?_⟩) | ((with_reducible refine st_row1 rfl 40 _ _ rfl ?_); refine ⟨w.heap.size, _, g.arr, _, rfl, rfl, L4.out.hZ, by rw [gp_row.2, ZG.out], by rw [ZG.out]; rfl, Gp.one _, ?_⟩))
          refine bodyPost_ret (v := .tuple #[.agg g.arr, .int .i64 (0 : Nat), .bool false]) (results_row_tmps Try.results70 _ _ w.heap.size 40 g.arr _ _ _ rfl rfl rfl (setRow_heap _ _ _ _ _ _ L4.out.hZ) gp_row.1 rfl (by rw [gp_row.2, ZG.out])) rfl ?_
          exact LedPost.mk g 0 false rfl L4.out.ok (fun h => absurd h (by decide)) (L4.out.done _)
        by_cases b3 : xb < 0
        · clear bad
          go_wp2_with (first | ((with_reducible refine ld_row1 rfl 40 _ rfl ?_); refine ⟨G, _, g.arr, _, rfl, L4.out.hG, gp_row.1, rfl, by rw [gp_row.2, ZG.out], ?_⟩) | ((with_reducible refine st_row1 rfl 40 _ _ rfl ?_); refine ⟨w.heap.size, _, g.arr, _, rfl, rfl, L4.out.hZ, by rw [gp_row.2, ZG.out], by rw [ZG.out]; rfl, Gp.one _, ?_⟩))
          refine bodyPost_ret (v := .tuple #[.agg g.arr, .int .i64 (0 : Nat), .bool false]) (results_row_tmps Try.results70 _ _ w.heap.size 40 g.arr _ _ _ rfl rfl rfl (setRow_heap _ _ _ _ _ _ L4.out.hZ) gp_row.1 rfl (by rw [gp_row.2, ZG.out])) rfl ?_
          exact LedPost.mk g 0 false rfl L4.out.ok (fun h => absurd h (by decide)) (L4.out.done _)
        have b4 : 7 < xb := by omega
        clear bad
        go_wp2_with (first | ((with_reducible refine ld_row1 rfl 40 _ rfl ?_); refine ⟨G, _, g.arr, _, rfl, L4.out.hG, gp_row.1, rfl, by rw [gp_row.2, ZG.out], ?_⟩) | ((with_reducible refine st_row1 rfl 40 _ _ rfl ?_); refine ⟨w.heap.size, _, g.arr, _, rfl, rfl, L4.out.hZ, by rw [gp_row.2, ZG.out], by rw [ZG.out]; rfl, Gp.one _, ?_⟩))
        refine bodyPost_ret (v := .tuple #[.agg g.arr, .int .i64 (0 : Nat), .bool false]) (results_row_tmps Try.results70 _ _ w.heap.size 40 g.arr _ _ _ rfl rfl rfl (setRow_heap _ _ _ _ _ _ L4.out.hZ) gp_row.1 rfl (by rw [gp_row.2, ZG.out])) rfl ?_
        exact LedPost.mk g 0 false rfl L4.out.ok (fun h => absurd h (by decide)) (L4.out.done _)
      · have ha : 0 ≤ xa := by omega
        have ha3 : xa < 3 := by omega
        have hb0 : 0 ≤ xb := by omega
        have hb7 : xb ≤ 7 := by omega
        clear bad
        obtain ⟨ia, rfl⟩ := Int.eq_ofNat_of_zero_le ha
        obtain ⟨ib, rfl⟩ := Int.eq_ofNat_of_zero_le hb0
        have hia : ia < 3 := by omega
        have hib : ib < 8 := by omega
        have NA := Lib.hid (show X.a.toNat = ia ∧ X.b.toNat = ib from by rw [HXA.out, HXB.out]; exact ⟨rfl, rfl⟩)
        by_cases k1 : kd = sUp
        · have HE := Lib.hid (show ledAll (l.take (k + 1)) = ⟨g.setU ia true, ep, n⟩ from by rw [HST.out]; unfold ledStep; rw [HXK.out, if_pos (.inl k1), NA.out.1, decide_eq_true k1])
          have q1 : (kd.toList == [117, 112]) = true := by rw [kd_up, decide_eq_true k1]
          obtain ⟨u0, u1⟩ := gp_up (i := ia) L4.out.hG L4.out.ok (by rw [L4.out.ok.u3]; exact hia)
          have L5 := Lib.hid (L4.out.setU ia true)
          clear k1 HST
          go_wp2
          go_roundw
          case rel => exact ⟨k + 1, _, by omega, by go_num, HE.out.symm, rfl, rfl, by simp; omega, by simp; omega, by simp; omega, L5.out⟩
          case measure => simp [intOf]; omega
        by_cases k2 : kd = sDown
        · have HE := Lib.hid (show ledAll (l.take (k + 1)) = ⟨g.setU ia false, ep, n⟩ from by rw [HST.out]; unfold ledStep; rw [HXK.out, if_pos (.inr k2), NA.out.1, decide_eq_false k1])
          have q1 : (kd.toList == [117, 112]) = false := by rw [kd_up, decide_eq_false k1]
          have q2 : (kd.toList == [100, 111, 119, 110]) = true := by rw [kd_down, decide_eq_true k2]
          obtain ⟨u0, u1⟩ := gp_up (i := ia) L4.out.hG L4.out.ok (by rw [L4.out.ok.u3]; exact hia)
          have L5 := Lib.hid (L4.out.setU ia false)
          clear k1 k2 HST
          go_wp2
          go_roundw
          case rel => exact ⟨k + 1, _, by omega, by go_num, HE.out.symm, rfl, rfl, by simp; omega, by simp; omega, by simp; omega, L5.out⟩
          case measure => simp [intOf]; omega
        have q1 : (kd.toList == [117, 112]) = false := by rw [kd_up, decide_eq_false k1]
        have q2 : (kd.toList == [100, 111, 119, 110]) = false := by rw [kd_down, decide_eq_false k2]
        have HST2 := Lib.hid (show ledAll (l.take (k + 1)) = if X.kind = sFence then (if 2 ≤ ((g.fence (ep + 1)).mem (ep + 1)).length then ⟨g.fence (ep + 1), ep + 1, n⟩ else ⟨g, ep, n⟩) else if X.kind = sSync then ⟨g.sync ep ia, ep, n⟩ else ⟨g.deliver ia ib ⟨ep, n + 1, X.s⟩, ep, n + 1⟩ from by
          rw [HST.out]; unfold ledStep; rw [if_neg (by rw [HXK.out]; rintro (h | h) <;> contradiction), NA.out.1, NA.out.2])
        rw [HXK.out] at HST2
        clear k1 k2 HST
        by_cases k3 : kd = sFence
        · have q3 : (kd.toList == [102, 101, 110, 99, 101]) = true := by rw [kd_fence, decide_eq_true k3]
          rw [if_pos k3] at HST2
          clear k3
          go_wp2_with ((with_reducible refine ld_row1 rfl 40 _ rfl ?_); refine ⟨G, _, g.arr, _, rfl, L4.out.hG, gp_row.1, rfl, by rw [gp_row.2, ZG.out], ?_⟩)
          refine (gfence_any g _ _ L4.out.ok (by omega)).mono ?_
          rintro e w5 ⟨rfl, b5⟩
          obtain ⟨Y, hY⟩ : ∃ Y, g.fence (ep + 1) = Y := ⟨_, rfl⟩
          have YOK := Lib.hid (show Y.ok from hY ▸ Gp.fence_ok L4.out.ok _)
          rw [hY] at HST2 ⊢
          obtain ⟨B, hB⟩ : ∃ B, decide (2 ≤ (Y.mem (ep + 1)).length) = B := ⟨_, rfl⟩
          rw [hB]
          have HBB := Lib.hid hB
          have ZY := Lib.hid (Gp.size YOK.out)
          have L5 := Lib.hid (L4.out.over b5)
          clear hY hB b5 L4
          have HW6 := Lib.hid (show (w5.alloc (.cells Try.zeroCells40 40)).heap[w5.heap.size]? = some (.cells Gp.zero.arr 40 (0, 0)) from gp_zero_arr ▸ heap_alloc_new w5 _)
          have L6 := Lib.hid (show LD w G g ((w5.alloc (.cells Try.zeroCells40 40)).setRow w5.heap.size Y.arr) from L5.out.over (bel_row w5 _ _ _))
          clear L5
          cases B
          · have HE := Lib.hid (show ledAll (l.take (k + 1)) = ⟨g, ep, n⟩ from by rw [HST2.out, if_neg (of_decide_eq_false HBB.out)])
            clear HST2
            go_wp2_with ((with_reducible refine st_row1 rfl 40 _ _ rfl ?_); refine ⟨w5.heap.size, _, Y.arr, _, rfl, rfl, HW6.out, by rw [gp_row.2, ZY.out], by rw [ZY.out]; rfl, Gp.one _, ?_⟩)
            go_roundw
            case rel => exact ⟨k + 1, _, by omega, by go_num, HE.out.symm, rfl, rfl, by simp; omega, by simp; omega, by simp; omega, L6.out⟩
            case measure => simp [intOf]; omega
          · have HE := Lib.hid (show ledAll (l.take (k + 1)) = ⟨Y, ep + 1, n⟩ from by rw [HST2.out, if_pos (of_decide_eq_true HBB.out)])
            have L7 := Lib.hid (L6.out.put YOK.out)
            clear HST2
            go_wp2_with (first | ((with_reducible refine st_row1 rfl 40 _ _ rfl ?_); refine ⟨w5.heap.size, _, Y.arr, _, rfl, rfl, HW6.out, by rw [gp_row.2, ZY.out], by rw [ZY.out]; rfl, Gp.one _, ?_⟩) | ((with_reducible refine ld_row1 rfl 40 _ rfl ?_); refine ⟨w5.heap.size, _, Y.arr, _, rfl, setRow_heap _ _ _ _ _ _ HW6.out, gp_row.1, rfl, by rw [gp_row.2, ZY.out], ?_⟩) | ((with_reducible refine st_row1 rfl 40 _ _ rfl ?_); refine ⟨G, _, Y.arr, _, rfl, rfl, L6.out.hG, by rw [gp_row.2, ZY.out], by rw [ZG.out, ZY.out], Gp.one _, ?_⟩))
            go_roundw
            case rel => exact ⟨k + 1, _, by omega, by go_num, HE.out.symm, by simp, rfl, by simp, by simp; omega, by simp; omega, L7.out⟩
            case measure => simp [intOf]; omega
        have q3 : (kd.toList == [102, 101, 110, 99, 101]) = false := by rw [kd_fence, decide_eq_false k3]
        rw [if_neg k3] at HST2
        clear k3
        by_cases k4 : kd = sSync
        · have q4 : (kd.toList == [115, 121, 110, 99]) = true := by rw [kd_sync, decide_eq_true k4]
          rw [if_pos k4] at HST2
          clear k4
          go_wp2_with ((with_reducible refine ld_row1 rfl 40 _ rfl ?_); refine ⟨G, _, g.arr, _, rfl, L4.out.hG, gp_row.1, rfl, by rw [gp_row.2, ZG.out], ?_⟩)
          refine (gsync_any g _ ia _ L4.out.ok hia).mono ?_
          rintro e w5 ⟨rfl, b5⟩
          obtain ⟨Y, hY⟩ : ∃ Y, g.sync ep ia = Y := ⟨_, rfl⟩
          have YOK := Lib.hid (show Y.ok from hY ▸ Gp.sync_ok L4.out.ok _ _)
          rw [hY] at HST2 ⊢
          have ZY := Lib.hid (Gp.size YOK.out)
          have L5 := Lib.hid (L4.out.over b5)
          have L6 := Lib.hid (L5.out.put YOK.out)
          clear hY b5 L4
          go_wp2_with ((with_reducible refine st_row1 rfl 40 _ _ rfl ?_); refine ⟨G, _, Y.arr, _, rfl, rfl, L5.out.hG, by rw [gp_row.2, ZY.out], by rw [ZG.out, ZY.out], Gp.one _, ?_⟩)
          go_roundw
          case rel => exact ⟨k + 1, _, by omega, by go_num, HST2.out.symm, rfl, rfl, by simp; omega, by simp; omega, by simp; omega, L6.out⟩
          case measure => simp [intOf]; omega
        have q4 : (kd.toList == [115, 121, 110, 99]) = false := by rw [kd_sync, decide_eq_false k4]
        rw [if_neg k4] at HST2
        clear k4
        obtain ⟨xs, hxs⟩ : ∃ xs, X.s = xs := ⟨_, rfl⟩
        rw [hxs] at HST2 c3
        clear hxs
        obtain ⟨cc, hcc⟩ : ∃ cc : Cel, cc = ⟨ep, n + 1, xs⟩ := ⟨_, rfl⟩
        rw [← hcc] at HST2
        have BC := Lib.hid (show Try.prog.built 23 [(0, .int .i64 ep), (1, .int .i64 (n + 1)), (2, .string xs)] = some cc.cells from by subst hcc; exact built_cell ⟨ep, n + 1, xs⟩)
        have BM := Lib.hid (built_msg ia ib cc)
        unfold msgC at BM
        clear hcc
        go_wp2_with (first | ((with_reducible refine ld_row1 rfl 40 _ rfl ?_); refine ⟨G, _, g.arr, _, rfl, L4.out.hG, gp_row.1, rfl, by rw [gp_row.2, ZG.out], ?_⟩) | ((with_reducible refine bld1 rfl 23 _ rfl ?_); refine ⟨[(0, .int .i64 ep), (1, .int .i64 (n + 1)), (2, .string xs)], cc.cells, rfl, BC.out, ?_⟩) | ((with_reducible refine bld1 rfl 66 _ rfl ?_); refine ⟨[(0, .int .i64 ia), (1, .int .i64 ib), (2, .agg cc.cells)], _, rfl, BM.out, ?_⟩))
        refine (gdeliver_any g ia ib cc 0 _ L4.out.ok hia hib).mono ?_
        rintro e w5 ⟨rfl, b5⟩
        obtain ⟨Y, hY⟩ : ∃ Y, g.deliver ia ib cc = Y := ⟨_, rfl⟩
        have YOK := Lib.hid (show Y.ok from hY ▸ Gp.deliver_ok L4.out.ok hia cc)
        rw [hY] at HST2 ⊢
        have ZY := Lib.hid (Gp.size YOK.out)
        have L5 := Lib.hid (L4.out.over b5)
        have L6 := Lib.hid (L5.out.put YOK.out)
        clear hY b5 L4
        go_wp2_with ((with_reducible refine st_row1 rfl 40 _ _ rfl ?_); refine ⟨G, _, Y.arr, _, rfl, rfl, L5.out.hG, by rw [gp_row.2, ZY.out], by rw [ZG.out, ZY.out], Gp.one _, ?_⟩)
        go_roundw
        case rel => exact ⟨k + 1, _, by omega, by go_num, HST2.out.symm, rfl, by simp, by simp; omega, by simp; omega, by simp; omega, L6.out⟩
        case measure => simp [intOf]; omega
    · obtain rfl : k = l.length := by omega
      rw [List.take_length] at HS
      have ZG := Lib.hid (Gp.size LDH.out.ok)
      go_wp2_with (first | ((with_reducible refine ld_row1 rfl 40 _ rfl ?_); refine ⟨G, _, g.arr, _, rfl, LDH.out.hG, gp_row.1, rfl, by rw [gp_row.2, ZG.out], ?_⟩) | ((with_reducible refine st_row1 rfl 40 _ _ rfl ?_); refine ⟨w.heap.size, _, g.arr, _, rfl, rfl, LDH.out.hZ, by rw [gp_row.2, ZG.out], by rw [ZG.out]; rfl, Gp.one _, ?_⟩))
      refine bodyPost_ret (v := .tuple #[.agg g.arr, .int .i64 ep, .bool true]) (results_row_tmps Try.results70 _ _ w.heap.size 40 g.arr _ _ _ rfl rfl rfl (setRow_heap _ _ _ _ _ _ LDH.out.hZ) gp_row.1 rfl (by rw [gp_row.2, ZG.out])) rfl ?_
      exact LedPost.mk g ep true rfl LDH.out.ok (fun _ => ⟨by rw [← HS.out], by rw [← HS.out], he1, he2⟩) (LDH.out.done _)
end Go.Proofs.Ytclhmpknkinjcaa
