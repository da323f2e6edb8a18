-- LAID BY gprint.py: a scratch copy of the print, with functions that this session proved by hand among the printed ones
import Derived.Test.YtbakfpiflcaacaaPFormatTablesx0
namespace Go.Proofs.Ytbakfpiflcaacaa.PFormatTables
open Go.RowKit Go.Proofs.YtbakfpiflcaacaaW.PrintWords Go.Proofs.YtbakfpiflcaacaaW.PrintLast Go.Proofs.Ytbakfpiflcaacaa.Conv Go.Proofs.Ytbakfpiflcaacaa.Bld Go.Proofs.YtbakfpiflcaacaaW.PrintMore
attribute [local go_sem] max2_int min2_int max_two min_two max_three min_three max_four min_four gtr_less   -- for this text's walks alone
set_option linter.unusedVariables false
set_option linter.unusedSimpArgs false

-- GIVEN rounds=0 making=1
/-! ### civil.Of: by hand: a long way without loops, its sums named on the way -/
def civT (Y M D us : Int) : Int × Int × Int × Int × Int × Int × Int × Bool := if Y > 9999 then (0, 0, 0, 0, 0, 0, 0, false) else (Y, M, D, us / 3600000000, us / 60000000 % 60, us / 1000000 % 60, us % 1000000, true)
def civZ (Y m q us : Int) : Int × Int × Int × Int × Int × Int × Int × Bool := if m + 3 > 12 then civT (Y + 1) (m + 3 - 12) (q - Int.tdiv (153 * m + 2) 5 + 1) us else civT Y (m + 3) (q - Int.tdiv (153 * m + 2) 5 + 1) us
def civX (e y q us : Int) : Int × Int × Int × Int × Int × Int × Int × Bool := civZ (400 * e + y) (Int.tdiv (5 * q + 2) 153) q us
def civY (r : Int) : Int := (r - r / 1460 + r / 36524 - r / 146096) / 365
def civW (e r us : Int) : Int × Int × Int × Int × Int × Int × Int × Bool := civX e (civY r) (r - (365 * civY r + civY r / 4 - civY r / 100)) us
def civV (a : Int) : Int × Int × Int × Int × Int × Int × Int × Bool := if a / 86400000000 > 3000000 then (0, 0, 0, 0, 0, 0, 0, false) else civW ((a / 86400000000 + 719468) / 146097) ((a / 86400000000 + 719468) % 146097) (a % 86400000000)
def civil_Of.f (a0 : Int) : Option (Int × Int × Int × Int × Int × Int × Int × Bool) := if 0 ≤ a0 ∧ a0 ≤ 18446744073709551615 then some (civV a0) else none
theorem civ64 {x : Int} (h : -9000000000000000000 ≤ x) (h2 : x ≤ 9000000000000000000) : wrap64 x = x := by
  unfold wrap64
  omega
theorem civu {x : Int} (h : 0 ≤ x) (h2 : x ≤ 18446744073709551615) : IntKind.u64.wrap x = x := by
  show x % 18446744073709551616 = x
  omega
theorem civtd {a b : Int} (h : 0 ≤ a) : Int.tdiv a b = a / b := Int.tdiv_eq_ediv_of_nonneg h
theorem civtm {a b : Int} (h : 0 ≤ a) : Int.tmod a b = a % b := Int.tmod_eq_emod_of_nonneg h
theorem civtb {a b c : Int} (h0 : -c ≤ a) (h1 : a ≤ c) (hb : 1 ≤ b) : -c ≤ Int.tdiv a b ∧ Int.tdiv a b ≤ c := by
  rcases Int.le_total 0 a with h | h
  · rw [civtd h]
    have h2 : a / b ≤ a := Int.ediv_le_self _ h
    have h3 : 0 ≤ a / b := Int.ediv_nonneg h (by omega)
    omega
  · obtain ⟨n, rfl⟩ : ∃ n, a = -n := ⟨-a, by omega⟩
    rw [Int.neg_tdiv, civtd (by omega)]
    have h2 : n / b ≤ n := Int.ediv_le_self _ (by omega)
    have h3 : 0 ≤ n / b := Int.ediv_nonneg (by omega) (by omega)
    omega
theorem civE5 {d : Int} (h : 0 ≤ d) (h1 : d ≤ 3000000) : wrap64 (wrap64 d + 719468) = d + 719468 := by
  rw [civ64 (x := d) (by omega) (by omega), civ64 (by omega) (by omega)]
theorem civE6 {n : Int} (h : 0 ≤ n) (h1 : n ≤ 4000000) : wrap64 (Int.tdiv n 146097) = n / 146097 := by
  rw [civtd h, civ64 (by omega) (by omega)]
theorem civE7 {r : Int} (h : 0 ≤ r) (h1 : r < 146097) : wrap64 (Int.tdiv (wrap64 ((wrap64 ((wrap64 (r - (wrap64 (Int.tdiv r 1460)))) + (wrap64 (Int.tdiv r 36524)))) - (wrap64 (Int.tdiv r 146096)))) 365) = civY r := by
  unfold civY
  rw [civtd h, civtd h, civtd h, civ64 (x := r / 1460) (by omega) (by omega), civ64 (x := r / 36524) (by omega) (by omega), civ64 (x := r / 146096) (by omega) (by omega), civ64 (x := r - r / 1460) (by omega) (by omega), civ64 (x := r - r / 1460 + r / 36524) (by omega) (by omega), civ64 (x := r - r / 1460 + r / 36524 - r / 146096) (by omega) (by omega), civtd (by omega), civ64 (by omega) (by omega)]
theorem civYb {r : Int} (h : 0 ≤ r) (h1 : r < 146097) : 0 ≤ civY r ∧ civY r ≤ 500 := by
  unfold civY
  omega
theorem civE8 {r y : Int} (h : 0 ≤ r) (h1 : r < 146097) (h2 : 0 ≤ y) (h3 : y ≤ 500) : wrap64 (r - (wrap64 ((wrap64 ((wrap64 (365 * y)) + (wrap64 (Int.tdiv y 4)))) - (wrap64 (Int.tdiv y 100))))) = r - (365 * y + y / 4 - y / 100) := by
  rw [civtd h2, civtd h2, civ64 (x := 365 * y) (by omega) (by omega), civ64 (x := y / 4) (by omega) (by omega), civ64 (x := y / 100) (by omega) (by omega), civ64 (x := 365 * y + y / 4) (by omega) (by omega), civ64 (x := 365 * y + y / 4 - y / 100) (by omega) (by omega), civ64 (by omega) (by omega)]
theorem civE9 {q : Int} (h : -400000 ≤ q) (h1 : q ≤ 400000) : wrap64 (Int.tdiv (wrap64 ((wrap64 (5 * q)) + 2)) 153) = Int.tdiv (5 * q + 2) 153 := by
  rw [civ64 (x := 5 * q) (by omega) (by omega), civ64 (x := 5 * q + 2) (by omega) (by omega)]
  have := civtb (a := 5 * q + 2) (b := 153) (c := 4000000) (by omega) (by omega) (by omega)
  exact civ64 (by omega) (by omega)
theorem civE10 {e y : Int} (h : 0 ≤ e) (h1 : e ≤ 100) (h2 : 0 ≤ y) (h3 : y ≤ 500) : wrap64 ((wrap64 (400 * e)) + y) = 400 * e + y := by
  rw [civ64 (x := 400 * e) (by omega) (by omega), civ64 (by omega) (by omega)]
theorem civE11 {m : Int} (h : -4000000 ≤ m) (h1 : m ≤ 4000000) : wrap64 (m + 3) = m + 3 := civ64 (by omega) (by omega)
theorem civE12 {m q : Int} (h : -4000000 ≤ m) (h1 : m ≤ 4000000) (h2 : -400000 ≤ q) (h3 : q ≤ 400000) : wrap64 ((wrap64 (q - (wrap64 (Int.tdiv (wrap64 ((wrap64 (153 * m)) + 2)) 5)))) + 1) = q - Int.tdiv (153 * m + 2) 5 + 1 := by
  rw [civ64 (x := 153 * m) (by omega) (by omega), civ64 (x := 153 * m + 2) (by omega) (by omega)]
  have := civtb (a := 153 * m + 2) (b := 5) (c := 4000000000) (by omega) (by omega) (by omega)
  rw [civ64 (x := Int.tdiv (153 * m + 2) 5) (by omega) (by omega), civ64 (x := q - Int.tdiv (153 * m + 2) 5) (by omega) (by omega), civ64 (by omega) (by omega)]
set_option maxHeartbeats 32000000 in
set_option maxRecDepth 100000 in
theorem civil_Of.calls (a0 : Int) (r1 : Int) (r2 : Int) (r3 : Int) (r4 : Int) (r5 : Int) (r6 : Int) (r7 : Int) (r8 : Bool) (w : World) (h : civil_Of.f a0 = some (r1, r2, r3, r4, r5, r6, r7, r8)) :
    Calls Try.prog 25 #[.int .u64 a0] w fun e w' => e = .returned (.tuple #[.agg #[.int .i64 r1, .int .i64 r2, .int .i64 r3, .int .i64 r4, .int .i64 r5, .int .i64 r6, .int .i64 r7], .bool r8]) ∧ Below w.heap.size w w' := by
  have hu := Try.underlying42
  unfold civil_Of.f at h
  by_cases h0 : 0 ≤ a0 ∧ a0 ≤ 18446744073709551615
  case neg => rw [if_neg h0] at h; cases h
  rw [if_pos h0] at h
  have HV := Lib.hid (Option.some.inj h)
  clear h
  obtain ⟨ha, ha2⟩ := h0
  have HBX : Hid (Below w.heap.size w (w.alloc (.cells #[.int .i64 0, .int .i64 0, .int .i64 0, .int .i64 0, .int .i64 0, .int .i64 0, .int .i64 0] 42))) := Lib.hid ((Below.refl _ _).alloc (Nat.le_refl _) _)
  have HR0 : Hid ((w.alloc (.cells #[.int .i64 0, .int .i64 0, .int .i64 0, .int .i64 0, .int .i64 0, .int .i64 0, .int .i64 0] 42)).heap[w.heap.size]? = some (.cells #[.int .i64 0, .int .i64 0, .int .i64 0, .int .i64 0, .int .i64 0, .int .i64 0, .int .i64 0] 42 (0, 0))) := Lib.hid (heap_alloc_new _ _)
  have E4 : IntKind.u64.wrap (Int.tdiv a0 86400000000) = a0 / 86400000000 := by
    rw [civtd ha, civu (by omega) (by omega)]
  have E15 : wrap64 (Int.tmod a0 86400000000) = a0 % 86400000000 := by
    rw [civtm ha, civ64 (by omega) (by omega)]
  unfold civV at HV
  obtain ⟨d, hd⟩ : ∃ d, a0 / 86400000000 = d := ⟨_, rfl⟩
  obtain ⟨us, hus⟩ : ∃ us, a0 % 86400000000 = us := ⟨_, rfl⟩
  have hd0 : 0 ≤ d := by omega
  have hu0 : 0 ≤ us ∧ us < 86400000000 := by omega
  rw [hd] at E4
  rw [hus] at E15
  rw [hd, hus] at HV
  clear ha ha2 hd hus
  by_cases hc : d > 3000000
  · rw [if_pos hc] at HV
    have hv := HV.out
    simp only [Prod.mk.injEq] at hv
    obtain ⟨rfl, rfl, rfl, rfl, rfl, rfl, rfl, rfl⟩ := hv
    have hcb : decide (3000000 < d) = true := decide_eq_true hc
    clear hd0 hu0 hc HV
    go_enter Try.func25, Try.ntmps25
    go_wp2_with (first
      | (refine store_ev rfl 42 _ _ rfl rfl w.heap.size #[.int .i64 0, .int .i64 0, .int .i64 0, .int .i64 0, .int .i64 0, .int .i64 0, .int .i64 0] rfl rfl 42 _ HR0.out (by kernel_rfl) (by kernel_rfl) (by kernel_rfl) ?_; intro w9 hb9 hp9; have HB9 := Lib.hid hb9; have HP9 := Lib.hid hp9; clear hb9 hp9))
    refine bodyPost_ret (results_ct rfl _ _ w.heap.size 42 #[.int .i64 0, .int .i64 0, .int .i64 0, .int .i64 0, .int .i64 0, .int .i64 0, .int .i64 0] (0, 0) _ rfl HB9.out hu rfl (by kernel_rfl)) rfl ?_
    exact ⟨rfl, HP9.out.below HBX.out (Nat.le_refl _)⟩
  rw [if_neg hc] at HV
  have hcb : decide (3000000 < d) = false := decide_eq_false hc
  have HT0 : Hid (((w.alloc (.cells #[.int .i64 0, .int .i64 0, .int .i64 0, .int .i64 0, .int .i64 0, .int .i64 0, .int .i64 0] 42)).alloc (.cells #[.int .i64 0, .int .i64 0, .int .i64 0, .int .i64 0, .int .i64 0, .int .i64 0, .int .i64 0] 42)).heap[w.heap.size + 1]? = some (.cells #[.int .i64 0, .int .i64 0, .int .i64 0, .int .i64 0, .int .i64 0, .int .i64 0, .int .i64 0] 42 (0, 0))) := Lib.hid (by
    have h := heap_alloc_new (w.alloc (.cells #[.int .i64 0, .int .i64 0, .int .i64 0, .int .i64 0, .int .i64 0, .int .i64 0, .int .i64 0] 42)) (.cells #[.int .i64 0, .int .i64 0, .int .i64 0, .int .i64 0, .int .i64 0, .int .i64 0, .int .i64 0] 42)
    rw [show (w.alloc (.cells #[.int .i64 0, .int .i64 0, .int .i64 0, .int .i64 0, .int .i64 0, .int .i64 0, .int .i64 0] 42)).heap.size = w.heap.size + 1 by simp] at h
    exact h)
  have HR1 : Hid (((w.alloc (.cells #[.int .i64 0, .int .i64 0, .int .i64 0, .int .i64 0, .int .i64 0, .int .i64 0, .int .i64 0] 42)).alloc (.cells #[.int .i64 0, .int .i64 0, .int .i64 0, .int .i64 0, .int .i64 0, .int .i64 0, .int .i64 0] 42)).heap[w.heap.size]? = some (.cells #[.int .i64 0, .int .i64 0, .int .i64 0, .int .i64 0, .int .i64 0, .int .i64 0, .int .i64 0] 42 (0, 0))) := Lib.hid (blk_alloc HR0.out _)
  have HBT : Hid (Below w.heap.size w ((w.alloc (.cells #[.int .i64 0, .int .i64 0, .int .i64 0, .int .i64 0, .int .i64 0, .int .i64 0, .int .i64 0] 42)).alloc (.cells #[.int .i64 0, .int .i64 0, .int .i64 0, .int .i64 0, .int .i64 0, .int .i64 0, .int .i64 0] 42))) := Lib.hid (HBX.out.alloc (by simp) _)
  have NRT : Hid (w.heap.size ≠ w.heap.size + 1) := Lib.hid (by omega)
  clear HR0 HBX
  have E5 := civE5 hd0 (by omega)
  obtain ⟨n, hn⟩ : ∃ n, d + 719468 = n := ⟨_, rfl⟩
  rw [hn] at E5 HV
  have hn0 : 719468 ≤ n ∧ n ≤ 3719468 := by omega
  have E6 := civE6 (n := n) (by omega) (by omega)
  have E6b : Int.tmod n 146097 = n % 146097 := civtm (by omega)
  obtain ⟨e, he⟩ : ∃ e, n / 146097 = e := ⟨_, rfl⟩
  obtain ⟨r, hr⟩ : ∃ r, n % 146097 = r := ⟨_, rfl⟩
  rw [he] at E6 HV
  rw [hr] at E6b HV
  have he0 : 0 ≤ e ∧ e ≤ 100 := by omega
  have hr0 : 0 ≤ r ∧ r < 146097 := by omega
  clear hd0 hn hn0 he hr hc
  unfold civW at HV
  have E7 := civE7 hr0.1 hr0.2
  have hy0 := civYb hr0.1 hr0.2
  obtain ⟨y, hy⟩ : ∃ y, civY r = y := ⟨_, rfl⟩
  rw [hy] at E7 HV hy0
  have E8 := civE8 hr0.1 hr0.2 hy0.1 hy0.2
  obtain ⟨q, hq⟩ : ∃ q, r - (365 * y + y / 4 - y / 100) = q := ⟨_, rfl⟩
  rw [hq] at E8 HV
  have hq0 : -400000 ≤ q ∧ q ≤ 400000 := by omega
  clear hy hq
  unfold civX at HV
  have E9 := civE9 hq0.1 hq0.2
  have hm1 := civtb (a := 5 * q + 2) (b := 153) (c := 4000000) (by omega) (by omega) (by omega)
  obtain ⟨m, hm⟩ : ∃ m, Int.tdiv (5 * q + 2) 153 = m := ⟨_, rfl⟩
  rw [hm] at E9 HV hm1
  have E10 := civE10 he0.1 he0.2 hy0.1 hy0.2
  obtain ⟨Y, hY⟩ : ∃ Y, 400 * e + y = Y := ⟨_, rfl⟩
  have hY0 : 0 ≤ Y ∧ Y ≤ 100000 := by omega
  rw [hY] at E10 HV
  unfold civZ at HV
  have E11 := civE11 hm1.1 hm1.2
  have E12 := civE12 hm1.1 hm1.2 hq0.1 hq0.2
  obtain ⟨M, hM⟩ : ∃ M, m + 3 = M := ⟨_, rfl⟩
  obtain ⟨D, hD⟩ : ∃ D, q - Int.tdiv (153 * m + 2) 5 + 1 = D := ⟨_, rfl⟩
  rw [hM] at HV
  replace E11 : wrap64 (m + 3) = M := E11.trans hM
  rw [hD] at E12 HV
  have hM0 : -5000000 ≤ M ∧ M ≤ 5000000 := by omega
  clear hm hm1 hq0 hY hD hM he0 hr0 hy0
  have E16 : wrap64 (Int.tdiv us 3600000000) = us / 3600000000 := by rw [civtd hu0.1, civ64 (by omega) (by omega)]
  have E17 : Int.tmod (wrap64 (Int.tdiv us 60000000)) 60 = us / 60000000 % 60 := by rw [civtd hu0.1, civ64 (by omega) (by omega), civtm (by omega)]
  have E18 : Int.tmod (wrap64 (Int.tdiv us 1000000)) 60 = us / 1000000 % 60 := by rw [civtd hu0.1, civ64 (by omega) (by omega), civtm (by omega)]
  have E19 : Int.tmod us 1000000 = us % 1000000 := civtm hu0.1
  unfold civT at HV
  obtain ⟨u1, hu1⟩ : ∃ u, us / 3600000000 = u := ⟨_, rfl⟩
  obtain ⟨u2, hu2⟩ : ∃ u, us / 60000000 % 60 = u := ⟨_, rfl⟩
  obtain ⟨u3, hu3⟩ : ∃ u, us / 1000000 % 60 = u := ⟨_, rfl⟩
  obtain ⟨u4, hu4⟩ : ∃ u, us % 1000000 = u := ⟨_, rfl⟩
  rw [hu1] at E16 HV
  rw [hu2] at E17 HV
  rw [hu3] at E18 HV
  rw [hu4] at E19 HV
  clear hu1 hu2 hu3 hu4 hu0
  go_enter Try.func25, Try.ntmps25
  go_upto_region 10 with (first
    | (refine store_ev rfl 42 _ _ rfl rfl (w.heap.size + 1) #[.int .i64 Y, .int .i64 M, .int .i64 D, .int .i64 0, .int .i64 0, .int .i64 0, .int .i64 0] rfl rfl 42 _ HT0.out (by kernel_rfl) (by kernel_rfl) (by kernel_rfl) ?_; intro w8 hb8 hp8; have HR8 := Lib.hid (hp8.blk HR1.out (by omega)); have HB8 := Lib.hid (hp8.below HBT.out (by omega)); have HT8 := Lib.hid hb8; clear HT0 HR1 HBT hp8; have b0 : w8.cell? ⟨w.heap.size + 1, 0, none⟩ = some (.int .i64 Y) := (blk_cell hb8 0).trans rfl; have b1 : w8.cell? ⟨w.heap.size + 1, 1, none⟩ = some (.int .i64 M) := (blk_cell hb8 1).trans rfl; have b2 : w8.cell? ⟨w.heap.size + 1, 2, none⟩ = some (.int .i64 D) := (blk_cell hb8 2).trans rfl; have b3 : w8.cell? ⟨w.heap.size + 1, 3, none⟩ = some (.int .i64 0) := (blk_cell hb8 3).trans rfl; have b4 : w8.cell? ⟨w.heap.size + 1, 4, none⟩ = some (.int .i64 0) := (blk_cell hb8 4).trans rfl; have b5 : w8.cell? ⟨w.heap.size + 1, 5, none⟩ = some (.int .i64 0) := (blk_cell hb8 5).trans rfl; have b6 : w8.cell? ⟨w.heap.size + 1, 6, none⟩ = some (.int .i64 0) := (blk_cell hb8 6).trans rfl; have z0 := blk_frozen hb8 0; have z1 := blk_frozen hb8 1; have z3 := blk_frozen hb8 3; have z4 := blk_frozen hb8 4; have z5 := blk_frozen hb8 5; have z6 := blk_frozen hb8 6; clear hb8))
  clear E4 E5 E6 E6b E7 E8 E9 E10 E11 E12
  by_cases hc2 : M > 12
  · rw [if_pos hc2] at HV
    have hcb2 : decide (12 < M) = true := decide_eq_true hc2
    have E13 : wrap64 (M - 12) = M - 12 := civ64 (by omega) (by omega)
    have E14 : wrap64 (Y + 1) = Y + 1 := civ64 (by omega) (by omega)
    obtain ⟨M2, hM2⟩ : ∃ M2, M - 12 = M2 := ⟨_, rfl⟩
    obtain ⟨Y2, hY2⟩ : ∃ Y2, Y + 1 = Y2 := ⟨_, rfl⟩
    rw [hM2, hY2] at HV
    replace E13 : wrap64 (M - 12) = M2 := E13.trans hM2
    replace E14 : wrap64 (Y + 1) = Y2 := E14.trans hY2
    clear hM2 hY2 hM0 hY0 hc2
    go_upto_region 15 with fail
    by_cases hc3 : Y2 > 9999
    case pos =>
      rw [if_pos hc3] at HV
      have hv := HV.out
      simp only [Prod.mk.injEq] at hv
      obtain ⟨rfl, rfl, rfl, rfl, rfl, rfl, rfl, rfl⟩ := hv
      have hcb3 : decide (9999 < Y2) = true := decide_eq_true hc3
      clear hc3 HV
      go_wp2_with (first
        | (refine store_ev rfl 42 _ _ rfl rfl w.heap.size #[.int .i64 0, .int .i64 0, .int .i64 0, .int .i64 0, .int .i64 0, .int .i64 0, .int .i64 0] rfl rfl 42 #[.int .i64 0, .int .i64 0, .int .i64 0, .int .i64 0, .int .i64 0, .int .i64 0, .int .i64 0] (by repeat (first | (with_reducible exact HR8.out) | refine blk_far ?_ NRT.out _)) (by kernel_rfl) (by kernel_rfl) (by kernel_rfl) ?_; intro w9 hb9 hp9; have HB9 := Lib.hid hb9; have HP9 := Lib.hid hp9; clear hb9 hp9))
      refine bodyPost_ret (results_ct rfl _ _ w.heap.size 42 #[.int .i64 0, .int .i64 0, .int .i64 0, .int .i64 0, .int .i64 0, .int .i64 0, .int .i64 0] (0, 0) _ rfl HB9.out hu rfl (by kernel_rfl)) rfl ?_
      exact ⟨rfl, HP9.out.below (by repeat (first | (with_reducible exact HB8.out) | refine below_set ?_ (by omega))) (Nat.le_refl _)⟩
    case neg =>
      rw [if_neg hc3] at HV
      have hv := HV.out
      simp only [Prod.mk.injEq] at hv
      obtain ⟨rfl, rfl, rfl, rfl, rfl, rfl, rfl, rfl⟩ := hv
      have hcb3 : decide (9999 < Y2) = false := decide_eq_false hc3
      clear hc3 HV
      go_wp2_with (first
        | (refine store_ev rfl 42 _ _ rfl rfl w.heap.size #[.int .i64 Y2, .int .i64 M2, .int .i64 D, .int .i64 u1, .int .i64 u2, .int .i64 u3, .int .i64 u4] rfl rfl 42 #[.int .i64 0, .int .i64 0, .int .i64 0, .int .i64 0, .int .i64 0, .int .i64 0, .int .i64 0] (by repeat (first | (with_reducible exact HR8.out) | refine blk_far ?_ NRT.out _)) (by kernel_rfl) (by kernel_rfl) (by kernel_rfl) ?_; intro w9 hb9 hp9; have HB9 := Lib.hid hb9; have HP9 := Lib.hid hp9; clear hb9 hp9))
      refine bodyPost_ret (results_ct rfl _ _ w.heap.size 42 #[.int .i64 Y2, .int .i64 M2, .int .i64 D, .int .i64 u1, .int .i64 u2, .int .i64 u3, .int .i64 u4] (0, 0) _ rfl HB9.out hu rfl (by kernel_rfl)) rfl ?_
      exact ⟨rfl, HP9.out.below (by repeat (first | (with_reducible exact HB8.out) | refine below_set ?_ (by omega))) (Nat.le_refl _)⟩
  · rw [if_neg hc2] at HV
    have hcb2 : decide (12 < M) = false := decide_eq_false hc2
    clear hM0 hY0 hc2
    go_upto_region 15 with fail
    by_cases hc3 : Y > 9999
    case pos =>
      rw [if_pos hc3] at HV
      have hv := HV.out
      simp only [Prod.mk.injEq] at hv
      obtain ⟨rfl, rfl, rfl, rfl, rfl, rfl, rfl, rfl⟩ := hv
      have hcb3 : decide (9999 < Y) = true := decide_eq_true hc3
      clear hc3 HV
      go_wp2_with (first
        | (refine store_ev rfl 42 _ _ rfl rfl w.heap.size #[.int .i64 0, .int .i64 0, .int .i64 0, .int .i64 0, .int .i64 0, .int .i64 0, .int .i64 0] rfl rfl 42 #[.int .i64 0, .int .i64 0, .int .i64 0, .int .i64 0, .int .i64 0, .int .i64 0, .int .i64 0] (by repeat (first | (with_reducible exact HR8.out) | refine blk_far ?_ NRT.out _)) (by kernel_rfl) (by kernel_rfl) (by kernel_rfl) ?_; intro w9 hb9 hp9; have HB9 := Lib.hid hb9; have HP9 := Lib.hid hp9; clear hb9 hp9))
      refine bodyPost_ret (results_ct rfl _ _ w.heap.size 42 #[.int .i64 0, .int .i64 0, .int .i64 0, .int .i64 0, .int .i64 0, .int .i64 0, .int .i64 0] (0, 0) _ rfl HB9.out hu rfl (by kernel_rfl)) rfl ?_
      exact ⟨rfl, HP9.out.below (by repeat (first | (with_reducible exact HB8.out) | refine below_set ?_ (by omega))) (Nat.le_refl _)⟩
    case neg =>
      rw [if_neg hc3] at HV
      have hv := HV.out
      simp only [Prod.mk.injEq] at hv
      obtain ⟨rfl, rfl, rfl, rfl, rfl, rfl, rfl, rfl⟩ := hv
      have hcb3 : decide (9999 < Y) = false := decide_eq_false hc3
      clear hc3 HV
      go_wp2_with (first
        | (refine store_ev rfl 42 _ _ rfl rfl w.heap.size #[.int .i64 Y, .int .i64 M, .int .i64 D, .int .i64 u1, .int .i64 u2, .int .i64 u3, .int .i64 u4] rfl rfl 42 #[.int .i64 0, .int .i64 0, .int .i64 0, .int .i64 0, .int .i64 0, .int .i64 0, .int .i64 0] (by repeat (first | (with_reducible exact HR8.out) | refine blk_far ?_ NRT.out _)) (by kernel_rfl) (by kernel_rfl) (by kernel_rfl) ?_; intro w9 hb9 hp9; have HB9 := Lib.hid hb9; have HP9 := Lib.hid hp9; clear hb9 hp9))
      refine bodyPost_ret (results_ct rfl _ _ w.heap.size 42 #[.int .i64 Y, .int .i64 M, .int .i64 D, .int .i64 u1, .int .i64 u2, .int .i64 u3, .int .i64 u4] (0, 0) _ rfl HB9.out hu rfl (by kernel_rfl)) rfl ?_
      exact ⟨rfl, HP9.out.below (by repeat (first | (with_reducible exact HB8.out) | refine below_set ?_ (by omega))) (Nat.le_refl _)⟩

/-! ### export_Decimal: function 26 -/
def export_Decimal.f : Nat → Int → Option (ByteArray)
  | 0, _ => none
  | k + 1, a0 => if a0 < 10 then (some (strOfNums (([(IntKind.u64.wrap (48 + a0)) % 256] : List Int)))) else ((export_Decimal.f k (IntKind.u64.wrap (Int.tdiv a0 10))).bind fun t104 => ((some (([(IntKind.u64.wrap (48 + (Int.tmod a0 10))) % 256] : List Int) : List Int)).bind fun y105 => (if t104.size + (strOfNums y105).size ≤ 9223372036854775807 then (some (t104 ++ (strOfNums y105))) else (none))))
theorem export_Decimal.mono_l : ∀ k, (∀ y0, LeO (export_Decimal.f k y0) (export_Decimal.f (k + 1) y0))
  | 0 => fun _ r h => by simp [export_Decimal.f] at h
  | k + 1 => by
    have ih0 := export_Decimal.mono_l k
    · intro y0
      unfold export_Decimal.f
      repeat' first
      | (with_reducible exact ih0 _)
      | (with_reducible exact LeO.refl _)
      | (with_reducible exact LeO.none _)
      | (with_reducible refine LeO.ite ?_ ?_)
      | (with_reducible refine LeO.bind ?_ (fun _ => ?_))
      | exact ih0 _
      | exact LeO.none _
      | refine LeO.ite ?_ ?_
      | refine LeO.bind ?_ (fun _ => ?_)
theorem export_Decimal.mono : ∀ a0 k, LeO (export_Decimal.f k a0) (export_Decimal.f (k + 1) a0) := by
  intro a0 k
  have ih0 := export_Decimal.mono_l k
  exact ih0 a0
def export_Decimal.T3 : Bool × List (List Nat × List Nat) := (true, [([], []), ([0], [0]), ([1], [1]), ([], []), ([3], [3]), ([4], [4]), ([5], [5]), ([6], [6]), ([7], [7]), ([2, 8], [2, 8]), ([9, 2, 0, 1, 2, 3, 4, 5, 6, 7, 8, 9], [9])])
def export_Decimal.B3 : List Nat := [0, 1, 3, 0, 8, 24, 56, 120, 248, 511, 1023]
theorem export_Decimal.tab3 : rtab .any (opsOf Try.f26 3) = export_Decimal.T3 := by kernel_rfl
theorem export_Decimal.bits3 : waitsOk export_Decimal.T3.2 export_Decimal.B3 = true := by kernel_rfl
set_option maxHeartbeats 8000000 in
set_option maxRecDepth 100000 in
theorem export_Decimal.calls (k : Nat) : ∀ (a0 : Int) (r : ByteArray) (w : World) (h : export_Decimal.f k a0 = some r),
    Calls Try.prog 26 #[.int .u64 a0] w fun e w' => e = .returned (.string r) ∧ Below w.heap.size w w' := by
  induction k using Nat.strongRecOn with
  | _ k ih =>
  intro a0 r w h
  cases k with
  | zero => exact absurd h (by simp [export_Decimal.f])
  | succ k =>
  simp only [export_Decimal.f] at h
  have HB := Aside0.mk (Below.refl w.heap.size w)
  have H : (if a0 < 10 then (some (strOfNums (([(IntKind.u64.wrap (48 + a0)) % 256] : List Int)))) else ((export_Decimal.f k (IntKind.u64.wrap (Int.tdiv a0 10))).bind fun t104 => ((some (([(IntKind.u64.wrap (48 + (Int.tmod a0 10))) % 256] : List Int) : List Int)).bind fun y105 => (if t104.size + (strOfNums y105).size ≤ 9223372036854775807 then (some (t104 ++ (strOfNums y105))) else (none))))) = some r := h
  clear h
  by_cases c2 : a0 < 10
  · rw [if_pos c2] at H
    have c2b0 : decide (a0 < 10) = true := decide_eq_true c2
    clear c2
    obtain ⟨y101, hy101⟩ : ∃ y_ : List Int, y_ = (([(IntKind.u64.wrap (48 + a0)) % 256] : List Int)) := ⟨_, rfl⟩
    replace H : (some (strOfNums y101)) = some r := by first | (rw [hy101]; with_reducible exact H) | (have H2_ := (Option.bind_some _ _).symm.trans H; rw [hy101]; with_reducible exact H2_) | (have H2_ := (Option.bind_some _ _).symm.trans H; with_reducible exact H2_) | with_reducible exact H | (rw [hy101]; exact H) | exact H
    have Ny101 := Aside0.mk hy101
    clear hy101
    obtain rfl := Option.some.inj H
    go_enter Try.func26, Try.ntmps26
    go_wp2_with (first | ((with_reducible refine gate_dst (N := 8) rfl ?_); refine Kd.R_lit (Kd.int .u8) _ 5 ?hg (N := 8) ?hd (xs := ([(IntKind.u64.wrap (48 + a0)) % 256] : List Int)) (inner := [.int .u8 ((IntKind.u64.wrap (48 + a0)) % 256)]) (ok := fun _ => True) (okp := fun _ => True) ?hr ?hp (fun _ hk => hk) trivial (Below.refl _ _) (Nat.le_refl _) (by simp) ?_; (case hd => rfl); (case hg => rfl); (case hr => first | (go_simp; done) | (go_simp; rfl)); (case hp => exact (Reps.one (show Kd.M (Kd.int .u8) _ _ _ ((IntKind.u64.wrap (48 + a0)) % 256) [.int .u8 ((IntKind.u64.wrap (48 + a0)) % 256)] from rfl) (Reps.none _ _))); intro v102 w3 ho4 hb hg_ hnew_; clear hg_ hnew_; (first | rw [← Ny101.out] at ho4 | (simp only [Int.reduceToNat] at ho4; rw [← Ny101.out] at ho4)); have n0_ := Aside0.mk (Kd.R_lower ho4 (below_size (by repeat (first | (with_reducible first | exact HB.out | apply below_alloc | apply pw_below_drewN | apply below_drew1) | exact HB.out)))); have n1_ := Aside0.mk (below_step (by repeat (first | (with_reducible first | exact HB.out | apply below_alloc | apply pw_below_drewN | apply below_drew1) | exact HB.out)) hb); clear HB; have HO103 := n0_; have HB := n1_; clear n0_ n1_; clear hb ho4; have hcv5 := own_string (P := Try.prog) Try.underlying51 Try.underlying5 Try.underlying9 (Kd.own_of_R HO103.out)))
    go_ret
    exact ⟨by first | rfl | (simp [errW_none, errW_some] <;> rfl) | (simp [*, errW_none, errW_some] <;> rfl), by repeat (first | (with_reducible first | exact HB.out | apply below_alloc | apply pw_below_drewN | apply below_drew1) | exact HB.out)⟩
  · rw [if_neg c2] at H
    have c2b0 : decide (a0 < 10) = false := decide_eq_false c2
    clear c2
    replace H := Option.bind_eq_some_iff.mp H
    obtain ⟨t104, A60, H⟩ := H
    replace H : ((some (([(IntKind.u64.wrap (48 + (Int.tmod a0 10))) % 256] : List Int) : List Int)).bind fun y105 => (if t104.size + (strOfNums y105).size ≤ 9223372036854775807 then (some (t104 ++ (strOfNums y105))) else (none))) = some r := H
    have A6 := Aside0.mk A60
    clear A60
    obtain ⟨y105, hy105⟩ : ∃ y_ : List Int, y_ = (([(IntKind.u64.wrap (48 + (Int.tmod a0 10))) % 256] : List Int)) := ⟨_, rfl⟩
    replace H : (if t104.size + (strOfNums y105).size ≤ 9223372036854775807 then (some (t104 ++ (strOfNums y105))) else (none)) = some r := by first | (rw [hy105]; with_reducible exact H) | (have H2_ := (Option.bind_some _ _).symm.trans H; rw [hy105]; with_reducible exact H2_) | (have H2_ := (Option.bind_some _ _).symm.trans H; with_reducible exact H2_) | with_reducible exact H | (rw [hy105]; exact H) | exact H
    have Ny105 := Aside0.mk hy105
    clear hy105
    by_cases c7 : t104.size + (strOfNums y105).size ≤ 9223372036854775807
    · rw [if_pos c7] at H
      have c7b0 := eq_true c7
      have c7b1 : decide (t104.size + (strOfNums y105).size ≤ 9223372036854775807) = true := decide_eq_true c7
      try have c7b2 : (9223372036854775807 < t104.size + (strOfNums y105).size) = False := eq_false (Nat.not_lt.2 c7)
      obtain rfl := Option.some.inj H
      go_enter Try.func26, Try.ntmps26
      try go_wp2
      have n0_ := Aside0.mk (below_drew1 HB.out)
      clear HB
      have HB := n0_
      clear n0_
      refine start_ (n := 11) (S := fun w' => True) (ds := []) #[false, false, false, false, false, false, false, false, false, false, false] (by kernel_rfl) rfl rfl trivial (fun hHeld => ?_); refine with_tabW export_Decimal.tab3 export_Decimal.bits3 (fun HT_ HW_ => ?_)
      generalize w.drew = w8 at HB hHeld ⊢
      refine pure_ (i := 0) (N := some 10) (v := ?_) (a' := ?_) #[true, false, false, false, false, false, false, false, false, false, false] rfl rfl (any_of HT_.out (by kernel_rfl)) (fun _ _ _ h => h) (Or.inl ⟨by rfl, ?_⟩) ?_ ?_
      rotate_left
      · intro w'
        go_simp
        with_reducible rfl
      rotate_left
      · simp only [Act.put, List.setIfInBounds_toArray, List.set_cons_zero, List.set_cons_succ, i64_w, i32_w]
        rfl
      refine pure_ (i := 1) (N := some 11) (v := ?_) (a' := ?_) #[true, true, false, false, false, false, false, false, false, false, false] rfl rfl (any_of HT_.out (by kernel_rfl)) (fun _ _ _ h => h) (Or.inl ⟨by rfl, ?_⟩) ?_ ?_
      rotate_left
      · intro w'
        go_simp
        with_reducible rfl
      rotate_left
      · simp only [Act.put, List.setIfInBounds_toArray, List.set_cons_zero, List.set_cons_succ, i64_w, i32_w]
        rfl
      refine pure_ (i := 3) (N := some 13) (v := ?_) (a' := ?_) #[true, true, false, true, false, false, false, false, false, false, false] rfl rfl (any_of HT_.out (by kernel_rfl)) (fun _ _ _ h => h) (Or.inl ⟨by rfl, ?_⟩) ?_ ?_
      rotate_left
      · intro w'
        go_simp
        with_reducible rfl
      rotate_left
      · simp only [Act.put, List.setIfInBounds_toArray, List.set_cons_zero, List.set_cons_succ, i64_w, i32_w]
        rfl
      refine pure_ (i := 4) (N := some 14) (v := ?_) (a' := ?_) #[true, true, false, true, true, false, false, false, false, false, false] rfl rfl (any_of HT_.out (by kernel_rfl)) (fun _ _ _ h => h) (Or.inl ⟨by rfl, ?_⟩) ?_ ?_
      rotate_left
      · intro w'
        go_simp
        with_reducible rfl
      rotate_left
      · simp only [Act.put, List.setIfInBounds_toArray, List.set_cons_zero, List.set_cons_succ, i64_w, i32_w]
        rfl
      refine pure_ (i := 5) (N := some 15) (v := ?_) (a' := ?_) #[true, true, false, true, true, true, false, false, false, false, false] rfl rfl (any_of HT_.out (by kernel_rfl)) (fun _ _ _ h => h) (Or.inl ⟨by rfl, ?_⟩) ?_ ?_
      rotate_left
      · intro w'
        go_simp
        with_reducible rfl
      rotate_left
      · simp only [Act.put, List.setIfInBounds_toArray, List.set_cons_zero, List.set_cons_succ, i64_w, i32_w]
        rfl
      refine pure_ (i := 6) (N := some 16) (v := ?_) (a' := ?_) #[true, true, false, true, true, true, true, false, false, false, false] rfl rfl (any_of HT_.out (by kernel_rfl)) (fun _ _ _ h => h) (Or.inl ⟨by rfl, ?_⟩) ?_ ?_
      rotate_left
      · intro w'
        go_simp
        with_reducible rfl
      rotate_left
      · simp only [Act.put, List.setIfInBounds_toArray, List.set_cons_zero, List.set_cons_succ, i64_w, i32_w]
        rfl
      refine join_ (σ := Value) 2 #[true, true, true, true, true, true, true, true, true, false, false] (fun s_ => [(12, .string t104), (17, s_), (18, .string (strOfNums y105))]) (fun s_ w' => (Kd.R (Kd.int .u8) 5 w' w.heap.size (fun _ => True) s_ y105) ∧ (Below w.heap.size w w')) ?_ ?_
      rotate_left
      · intro hCont
        refine two_ (i := 2) (j := 7) (Ni := some 12) (Nj := some 17) #[true, true, true, true, true, true, true, false, false, false, false] #[true, true, false, true, true, true, true, true, false, false, false] rfl rfl rfl rfl (two_of HT_.out (by kernel_rfl)) (by decide) (by decide) (fun K hK => ?_) (fun K hK => ?_)
        · skip
          refine goes_ Try.func26 (by kernel_rfl) rfl #[.int .u64 (IntKind.u64.wrap (Int.tdiv a0 10))] (by rfl) rfl rfl (by (try simp only [List.map_toArray, List.map_cons, List.map_nil]); first | done | rfl | (simp only [List.length_drop, List.length_take]; rfl)) ?_
          with_reducible refine (ih k (by omega) (IntKind.u64.wrap (Int.tdiv a0 10)) t104 _ A6.out).mono ?_
          rintro e w9 ⟨rfl, hb⟩
          refine ⟨_, rfl, ?_⟩
          have n0_ := Aside0.mk (below_step (by repeat (first | (with_reducible first | exact HB.out | apply below_alloc | apply pw_below_drewN | apply below_drew1) | exact HB.out)) hb)
          clear HB
          have HB := n0_
          clear n0_
          (try clear hb)
          (try clear hb2)
          (try clear hk)
          (try clear hi)
          refine hK.out _ _ trivial (fun hHeld => ?_)
          clear hK K
          refine norm_ (a' := ?_) ?_ ?_
          rotate_left
          · show Act.put _ (some 12) _ = _
            simp only [Act.put, List.setIfInBounds_toArray, List.set_cons_zero, List.set_cons_succ, i64_w, i32_w]
            rfl
          refine one_ (i := 7) (N := some 17) #[true, true, true, true, true, true, true, true, false, false, false] rfl rfl (one_of HT_.out (by kernel_rfl)) (by decide) (fun K hK => ?_)
          refine Kd.R_lit_step (Kd.int .u8) _ 5 ?hg (N := 17) ?hd (xs := ([(IntKind.u64.wrap (48 + (Int.tmod a0 10))) % 256] : List Int)) (inner := [.int .u8 ((IntKind.u64.wrap (48 + (Int.tmod a0 10))) % 256)]) (ok := fun _ => True) (okp := fun _ => True) ?hr ?hp (fun _ hk => hk) trivial (Below.refl _ _) (Nat.le_refl _) (by simp) ?_; (case hd => rfl); (case hg => rfl); (case hr => first | (go_simp; done) | (go_simp; rfl)); (case hp => exact (Reps.one (show Kd.M (Kd.int .u8) _ _ _ ((IntKind.u64.wrap (48 + (Int.tmod a0 10))) % 256) [.int .u8 ((IntKind.u64.wrap (48 + (Int.tmod a0 10))) % 256)] from rfl) (Reps.none _ _)))
          intro v106 w10 ho11 hb hg_ hnew_
          clear hg_ hnew_
          (first | rw [← Ny105.out] at ho11 | (simp only [Int.reduceToNat] at ho11; rw [← Ny105.out] at ho11))
          have n0_ := Aside0.mk (Kd.R_lower ho11 (below_size (by repeat (first | (with_reducible first | exact HB.out | apply below_alloc | apply pw_below_drewN | apply below_drew1) | exact HB.out))))
          have n1_ := Aside0.mk (below_step (by repeat (first | (with_reducible first | exact HB.out | apply below_alloc | apply pw_below_drewN | apply below_drew1) | exact HB.out)) hb)
          clear HB
          have HO107 := n0_
          have HB := n1_
          clear n0_ n1_
          clear hb ho11
          refine hK.out _ _ trivial (fun hHeld => ?_)
          clear hK K
          refine norm_ (a' := ?_) ?_ ?_
          rotate_left
          · show Act.put _ (some 17) _ = _
            simp only [Act.put, List.setIfInBounds_toArray, List.set_cons_zero, List.set_cons_succ, i64_w, i32_w]
            rfl
          refine one_ (i := 8) (N := some 18) #[true, true, true, true, true, true, true, true, true, false, false] rfl rfl (one_of HT_.out (by kernel_rfl)) (by decide) (fun K hK => ?_)
          have hcv12 := own_string (P := Try.prog) Try.underlying51 Try.underlying5 Try.underlying9 (Kd.own_of_R HO107.out)
          refine value_ (w1 := ?_) (v := ?_) (by rfl) rfl ?_ ?_
          rotate_left 2
          · go_simp
            constructor
            · rfl
            · rfl
          clear hcv12
          refine hK.out _ _ trivial (fun hHeld => ?_)
          clear hK K
          refine norm_ (a' := ?_) ?_ ?_
          rotate_left
          · show Act.put _ (some 18) _ = _
            simp only [Act.put, List.setIfInBounds_toArray, List.set_cons_zero, List.set_cons_succ, i64_w, i32_w]
            rfl
          exact norm_ (by simp only [putAll, Act.put, List.setIfInBounds_toArray, List.set_cons_zero, List.set_cons_succ]) (hCont (v106) _ ⟨(by (with_reducible repeat (first | apply Kd.R_alloc | apply Kd.R_drewN | apply Kd.R_drew)); exact HO107.out), (by repeat (first | (with_reducible first | exact HB.out | apply below_alloc | apply pw_below_drewN | apply below_drew1) | exact HB.out))⟩)
        · skip
          refine Kd.R_lit_step (Kd.int .u8) _ 5 ?hg (N := 17) ?hd (xs := ([(IntKind.u64.wrap (48 + (Int.tmod a0 10))) % 256] : List Int)) (inner := [.int .u8 ((IntKind.u64.wrap (48 + (Int.tmod a0 10))) % 256)]) (ok := fun _ => True) (okp := fun _ => True) ?hr ?hp (fun _ hk => hk) trivial (Below.refl _ _) (Nat.le_refl _) (by simp) ?_; (case hd => rfl); (case hg => rfl); (case hr => first | (go_simp; done) | (go_simp; rfl)); (case hp => exact (Reps.one (show Kd.M (Kd.int .u8) _ _ _ ((IntKind.u64.wrap (48 + (Int.tmod a0 10))) % 256) [.int .u8 ((IntKind.u64.wrap (48 + (Int.tmod a0 10))) % 256)] from rfl) (Reps.none _ _)))
          intro v106 w9 ho10 hb hg_ hnew_
          clear hg_ hnew_
          (first | rw [← Ny105.out] at ho10 | (simp only [Int.reduceToNat] at ho10; rw [← Ny105.out] at ho10))
          have n0_ := Aside0.mk (Kd.R_lower ho10 (below_size (by repeat (first | (with_reducible first | exact HB.out | apply below_alloc | apply pw_below_drewN | apply below_drew1) | exact HB.out))))
          have n1_ := Aside0.mk (below_step (by repeat (first | (with_reducible first | exact HB.out | apply below_alloc | apply pw_below_drewN | apply below_drew1) | exact HB.out)) hb)
          clear HB
          have HO107 := n0_
          have HB := n1_
          clear n0_ n1_
          clear hb ho10
          refine hK.out _ _ trivial (fun hHeld => ?_)
          clear hK K
          refine norm_ (a' := ?_) ?_ ?_
          rotate_left
          · show Act.put _ (some 17) _ = _
            simp only [Act.put, List.setIfInBounds_toArray, List.set_cons_zero, List.set_cons_succ, i64_w, i32_w]
            rfl
          refine two_ (i := 2) (j := 8) (Ni := some 12) (Nj := some 18) #[true, true, true, true, true, true, true, true, false, false, false] #[true, true, false, true, true, true, true, true, true, false, false] rfl rfl rfl rfl (two_of HT_.out (by kernel_rfl)) (by decide) (by decide) (fun K hK => ?_) (fun K hK => ?_)
          · skip
            refine goes_ Try.func26 (by kernel_rfl) rfl #[.int .u64 (IntKind.u64.wrap (Int.tdiv a0 10))] (by rfl) rfl rfl (by (try simp only [List.map_toArray, List.map_cons, List.map_nil]); first | done | rfl | (simp only [List.length_drop, List.length_take]; rfl)) ?_
            with_reducible refine (ih k (by omega) (IntKind.u64.wrap (Int.tdiv a0 10)) t104 _ A6.out).mono ?_
            rintro e w11 ⟨rfl, hb⟩
            refine ⟨_, rfl, ?_⟩
            have n0_ := Aside0.mk (Kd.R_below (by (with_reducible repeat (first | apply Kd.R_alloc | apply Kd.R_drewN | apply Kd.R_drew)); exact HO107.out) hb)
            have n1_ := Aside0.mk (below_step (by repeat (first | (with_reducible first | exact HB.out | apply below_alloc | apply pw_below_drewN | apply below_drew1) | exact HB.out)) hb)
            clear HO107
            clear HB
            have HO107 := n0_
            have HB := n1_
            clear n0_ n1_
            (try clear hb)
            (try clear hb2)
            (try clear hk)
            (try clear hi)
            refine hK.out _ _ trivial (fun hHeld => ?_)
            clear hK K
            refine norm_ (a' := ?_) ?_ ?_
            rotate_left
            · show Act.put _ (some 12) _ = _
              simp only [Act.put, List.setIfInBounds_toArray, List.set_cons_zero, List.set_cons_succ, i64_w, i32_w]
              rfl
            refine one_ (i := 8) (N := some 18) #[true, true, true, true, true, true, true, true, true, false, false] rfl rfl (one_of HT_.out (by kernel_rfl)) (by decide) (fun K hK => ?_)
            have hcv12 := own_string (P := Try.prog) Try.underlying51 Try.underlying5 Try.underlying9 (Kd.own_of_R HO107.out)
            refine value_ (w1 := ?_) (v := ?_) (by rfl) rfl ?_ ?_
            rotate_left 2
            · go_simp
              constructor
              · rfl
              · rfl
            clear hcv12
            refine hK.out _ _ trivial (fun hHeld => ?_)
            clear hK K
            refine norm_ (a' := ?_) ?_ ?_
            rotate_left
            · show Act.put _ (some 18) _ = _
              simp only [Act.put, List.setIfInBounds_toArray, List.set_cons_zero, List.set_cons_succ, i64_w, i32_w]
              rfl
            exact norm_ (by simp only [putAll, Act.put, List.setIfInBounds_toArray, List.set_cons_zero, List.set_cons_succ]) (hCont (v106) _ ⟨(by (with_reducible repeat (first | apply Kd.R_alloc | apply Kd.R_drewN | apply Kd.R_drew)); exact HO107.out), (by repeat (first | (with_reducible first | exact HB.out | apply below_alloc | apply pw_below_drewN | apply below_drew1) | exact HB.out))⟩)
          · skip
            have hcv11 := own_string (P := Try.prog) Try.underlying51 Try.underlying5 Try.underlying9 (Kd.own_of_R HO107.out)
            refine value_ (w1 := ?_) (v := ?_) (by rfl) rfl ?_ ?_
            rotate_left 2
            · go_simp
              constructor
              · rfl
              · rfl
            clear hcv11
            refine hK.out _ _ trivial (fun hHeld => ?_)
            clear hK K
            refine norm_ (a' := ?_) ?_ ?_
            rotate_left
            · show Act.put _ (some 18) _ = _
              simp only [Act.put, List.setIfInBounds_toArray, List.set_cons_zero, List.set_cons_succ, i64_w, i32_w]
              rfl
            refine one_ (i := 2) (N := some 12) #[true, true, true, true, true, true, true, true, true, false, false] rfl rfl (one_of HT_.out (by kernel_rfl)) (by decide) (fun K hK => ?_)
            refine goes_ Try.func26 (by kernel_rfl) rfl #[.int .u64 (IntKind.u64.wrap (Int.tdiv a0 10))] (by rfl) rfl rfl (by (try simp only [List.map_toArray, List.map_cons, List.map_nil]); first | done | rfl | (simp only [List.length_drop, List.length_take]; rfl)) ?_
            with_reducible refine (ih k (by omega) (IntKind.u64.wrap (Int.tdiv a0 10)) t104 _ A6.out).mono ?_
            rintro e w12 ⟨rfl, hb⟩
            refine ⟨_, rfl, ?_⟩
            have n0_ := Aside0.mk (Kd.R_below (by (with_reducible repeat (first | apply Kd.R_alloc | apply Kd.R_drewN | apply Kd.R_drew)); exact HO107.out) hb)
            have n1_ := Aside0.mk (below_step (by repeat (first | (with_reducible first | exact HB.out | apply below_alloc | apply pw_below_drewN | apply below_drew1) | exact HB.out)) hb)
            clear HO107
            clear HB
            have HO107 := n0_
            have HB := n1_
            clear n0_ n1_
            (try clear hb)
            (try clear hb2)
            (try clear hk)
            (try clear hi)
            refine hK.out _ _ trivial (fun hHeld => ?_)
            clear hK K
            refine norm_ (a' := ?_) ?_ ?_
            rotate_left
            · show Act.put _ (some 12) _ = _
              simp only [Act.put, List.setIfInBounds_toArray, List.set_cons_zero, List.set_cons_succ, i64_w, i32_w]
              rfl
            exact norm_ (by simp only [putAll, Act.put, List.setIfInBounds_toArray, List.set_cons_zero, List.set_cons_succ]) (hCont (v106) _ ⟨(by (with_reducible repeat (first | apply Kd.R_alloc | apply Kd.R_drewN | apply Kd.R_drew)); exact HO107.out), (by repeat (first | (with_reducible first | exact HB.out | apply below_alloc | apply pw_below_drewN | apply below_drew1) | exact HB.out))⟩)
      rintro v106 w13 ⟨h0_, h1_⟩
      have n0_ : Aside0 (Kd.R (Kd.int .u8) 5 w13 w.heap.size (fun _ => True) v106 y105) := ⟨h0_⟩
      have n1_ : Aside0 (Below w.heap.size w w13) := ⟨h1_⟩
      clear HB
      clear h0_ h1_
      have HO107 := n0_
      have HB := n1_
      clear n0_ n1_
      have hHeld := trivial
      refine norm_ (a' := ?_) ?_ ?_
      rotate_left
      · simp only [putAll, Act.put, List.setIfInBounds_toArray, List.set_cons_zero, List.set_cons_succ]
        rfl
      refine pure_ (i := 9) (N := some 19) (v := ?_) (a' := ?_) #[true, true, true, true, true, true, true, true, true, true, false] rfl rfl (any_of HT_.out (by kernel_rfl)) (fun _ _ _ h => h) (Or.inl ⟨by rfl, ?_⟩) ?_ ?_
      rotate_left
      · intro w'
        go_simp
        with_reducible rfl
      rotate_left
      · simp only [Act.put, List.setIfInBounds_toArray, List.set_cons_zero, List.set_cons_succ, i64_w, i32_w]
        rfl
      refine pure_ (i := 10) (N := some 2) (v := ?_) (a' := ?_) #[true, true, true, true, true, true, true, true, true, true, true] rfl rfl (any_of HT_.out (by kernel_rfl)) (fun _ _ _ h => h) (Or.inl ⟨by rfl, ?_⟩) ?_ ?_
      rotate_left
      · intro w'
        go_simp
        with_reducible rfl
      rotate_left
      · simp only [Act.put, List.setIfInBounds_toArray, List.set_cons_zero, List.set_cons_succ, i64_w, i32_w]
        rfl
      refine done_ (done_of HT_.out (by kernel_rfl)) ?_
      try go_wp2
      go_ret
      exact ⟨by first | rfl | (simp [errW_none, errW_some] <;> rfl) | (simp [*, errW_none, errW_some] <;> rfl), by repeat (first | (with_reducible first | exact HB.out | apply below_alloc | apply pw_below_drewN | apply below_drew1) | exact HB.out)⟩
    · rw [if_neg c7] at H
      exact absurd H (by simp)

/-! ### format_month: function 27 -/
def format_month.f (a0 : Int) : Option (ByteArray) := if a0 < 1 then (some (⟨#[63, 63, 63]⟩ : ByteArray)) else (if a0 > 12 then (some (⟨#[63, 63, 63]⟩ : ByteArray)) else (if 0 ≤ (wrap64 ((wrap64 (3 * a0)) - 3)) then (if (wrap64 ((wrap64 (3 * a0)) - 3)) ≤ (wrap64 (3 * a0)) then (if (wrap64 (3 * a0)) ≤ 36 then (some ((⟨#[74, 97, 110, 70, 101, 98, 77, 97, 114, 65, 112, 114, 77, 97, 121, 74, 117, 110, 74, 117, 108, 65, 117, 103, 83, 101, 112, 79, 99, 116, 78, 111, 118, 68, 101, 99]⟩ : ByteArray).extract ((wrap64 ((wrap64 (3 * a0)) - 3)) : Int).toNat ((wrap64 (3 * a0)) : Int).toNat)) else (none)) else (none)) else (none)))
set_option maxHeartbeats 8000000 in
set_option maxRecDepth 100000 in
theorem format_month.calls (a0 : Int) (r : ByteArray) (w : World) (h : format_month.f a0 = some r) :
    Calls Try.prog 27 #[.int .i64 a0] w fun e w' => e = .returned (.string r) ∧ Drawn0 w w' := by
  have H : (if a0 < 1 then (some (⟨#[63, 63, 63]⟩ : ByteArray)) else (if a0 > 12 then (some (⟨#[63, 63, 63]⟩ : ByteArray)) else (if 0 ≤ (wrap64 ((wrap64 (3 * a0)) - 3)) then (if (wrap64 ((wrap64 (3 * a0)) - 3)) ≤ (wrap64 (3 * a0)) then (if (wrap64 (3 * a0)) ≤ 36 then (some ((⟨#[74, 97, 110, 70, 101, 98, 77, 97, 114, 65, 112, 114, 77, 97, 121, 74, 117, 110, 74, 117, 108, 65, 117, 103, 83, 101, 112, 79, 99, 116, 78, 111, 118, 68, 101, 99]⟩ : ByteArray).extract ((wrap64 ((wrap64 (3 * a0)) - 3)) : Int).toNat ((wrap64 (3 * a0)) : Int).toNat)) else (none)) else (none)) else (none)))) = some r := h
  clear h
  by_cases c2 : a0 < 1
  · rw [if_pos c2] at H
    have c2b0 : decide (a0 < 1) = true := decide_eq_true c2
    clear c2
    obtain rfl := Option.some.inj H
    go_enter Try.func27, Try.ntmps27
    go_wp2
    go_ret
    exact ⟨by first | rfl | (simp; done) | (simp [*]; done) | exact isEmpty_bne _, by repeat (first | exact Drawn0.refl _ | apply Drawn0.step)⟩
  · rw [if_neg c2] at H
    have c2b0 : decide (a0 < 1) = false := decide_eq_false c2
    clear c2
    by_cases c3 : a0 > 12
    · rw [if_pos c3] at H
      have c3b0 : decide (12 < a0) = true := decide_eq_true c3
      clear c3
      obtain rfl := Option.some.inj H
      go_enter Try.func27, Try.ntmps27
      go_wp2
      go_ret
      exact ⟨by first | rfl | (simp; done) | (simp [*]; done) | exact isEmpty_bne _, by repeat (first | exact Drawn0.refl _ | apply Drawn0.step)⟩
    · rw [if_neg c3] at H
      have c3b0 : decide (12 < a0) = false := decide_eq_false c3
      clear c3
      obtain ⟨ji4, hji4⟩ : ∃ j_ : Int, (wrap64 ((wrap64 (3 * a0)) - 3)) = j_ := ⟨_, rfl⟩
      replace H : (if 0 ≤ (ji4) then (if (ji4) ≤ (wrap64 (3 * a0)) then (if (wrap64 (3 * a0)) ≤ 36 then (some ((⟨#[74, 97, 110, 70, 101, 98, 77, 97, 114, 65, 112, 114, 77, 97, 121, 74, 117, 110, 74, 117, 108, 65, 117, 103, 83, 101, 112, 79, 99, 116, 78, 111, 118, 68, 101, 99]⟩ : ByteArray).extract ((ji4) : Int).toNat ((wrap64 (3 * a0)) : Int).toNat)) else (none)) else (none)) else (none)) = some r := by first | (rw [hji4] at H; exact H) | (simp only [hji4] at H ⊢; exact H)
      have hji4w : (IntKind.i64.wrap ((wrap64 (3 * a0)) - 3)) = ji4 := (i64_w _).trans hji4
      by_cases c5 : 0 ≤ (ji4)
      · rw [if_pos c5] at H
        have c5b0 := eq_true c5
        have c5b1 : decide (0 ≤ (ji4)) = true := decide_eq_true c5
        clear c5
        by_cases c6 : (ji4) ≤ (wrap64 (3 * a0))
        · rw [if_pos c6] at H
          have c6b0 := eq_true c6
          have c6b1 : decide ((ji4) ≤ (wrap64 (3 * a0))) = true := decide_eq_true c6
          try have c6bw : ((ji4) ≤ (IntKind.i64.wrap (3 * a0))) = True := by simp only [i64_w]; exact eq_true c6
          clear c6
          by_cases c7 : (wrap64 (3 * a0)) ≤ 36
          · rw [if_pos c7] at H
            have c7b0 := eq_true c7
            have c7b1 : decide ((wrap64 (3 * a0)) ≤ 36) = true := decide_eq_true c7
            try have c7bw : ((IntKind.i64.wrap (3 * a0)) ≤ 36) = True := by simp only [i64_w]; exact eq_true c7
            clear c7
            obtain rfl := Option.some.inj H
            go_enter Try.func27, Try.ntmps27
            go_wp2
            go_ret
            exact ⟨by first | rfl | (simp; done) | (simp only [← hji4] <;> (first | rfl | simp)) | (simp [*]; done), by repeat (first | exact Drawn0.refl _ | apply Drawn0.step)⟩
          · rw [if_neg c7] at H
            exact absurd H (by simp)
        · rw [if_neg c6] at H
          exact absurd H (by simp)
      · rw [if_neg c5] at H
        exact absurd H (by simp)

/-! ### format_pad: function 28 -/
def format_pad.l0 : Nat → Int → ByteArray → ByteArray → Option (ByteArray)
  | 0, _, _, _ => none
  | k + 1, x1, x2, x7 => if (x7.size : Int) < x1 then (if x2.size + x7.size ≤ 9223372036854775807 then (format_pad.l0 k x1 x2 (x2 ++ x7)) else (none)) else (some x7)
def format_pad.f (k : Nat) (a0 : Int) (a1 : Int) (a2 : ByteArray) : Option (ByteArray) := (export_Decimal.f k a0).bind fun t108 => (format_pad.l0 k a1 a2 t108)
theorem format_pad.mono_l : ∀ k, (∀ y0 y1 y2, LeO (format_pad.l0 k y0 y1 y2) (format_pad.l0 (k + 1) y0 y1 y2))
  | 0 => fun _ _ _ r h => by simp [format_pad.l0] at h
  | k + 1 => by
    have ih0 := format_pad.mono_l k
    · intro y0 y1 y2
      unfold format_pad.l0
      repeat' first
      | (with_reducible exact ih0 _ _ _)
      | (with_reducible exact export_Decimal.mono _ _)
      | (with_reducible exact LeO.refl _)
      | (with_reducible exact LeO.none _)
      | (with_reducible refine LeO.ite ?_ ?_)
      | (with_reducible refine LeO.bind ?_ (fun _ => ?_))
      | exact ih0 _ _ _
      | exact export_Decimal.mono _ _
      | exact LeO.none _
      | refine LeO.ite ?_ ?_
      | refine LeO.bind ?_ (fun _ => ?_)
theorem format_pad.mono : ∀ a0 a1 a2 k, LeO (format_pad.f k a0 a1 a2) (format_pad.f (k + 1) a0 a1 a2) := by
  intro a0 a1 a2 k
  have ih0 := format_pad.mono_l k
  unfold format_pad.f
  repeat' first
      | (with_reducible exact ih0 _ _ _)
      | (with_reducible exact export_Decimal.mono _ _)
      | (with_reducible exact LeO.refl _)
      | (with_reducible exact LeO.none _)
      | (with_reducible refine LeO.ite ?_ ?_)
      | (with_reducible refine LeO.bind ?_ (fun _ => ?_))
      | exact ih0 _ _ _
      | exact export_Decimal.mono _ _
      | exact LeO.none _
      | refine LeO.ite ?_ ?_
      | refine LeO.bind ?_ (fun _ => ?_)
set_option maxHeartbeats 8000000 in
set_option maxRecDepth 100000 in
theorem format_pad.calls (k : Nat) (a0 : Int) (a1 : Int) (a2 : ByteArray) (r : ByteArray) (w : World) (h : format_pad.f k a0 a1 a2 = some r) :
    Calls Try.prog 28 #[.int .u64 a0, .int .i64 a1, .string a2] w fun e w' => e = .returned (.string r) ∧ Below w.heap.size w w' := by
  have HB := Aside0.mk (Below.refl w.heap.size w)
  have H : ((export_Decimal.f k a0).bind fun t108 => (format_pad.l0 k a1 a2 t108)) = some r := h
  clear h
  replace H := Option.bind_eq_some_iff.mp H
  obtain ⟨t108, A40, H⟩ := H
  replace H : (format_pad.l0 k a1 a2 t108) = some r := H
  have A4 := Aside0.mk A40
  clear A40
  have H' := Aside0.mk H
  clear H
  go_enter Try.func28, Try.ntmps28
  go_wp2_with (first | ((with_reducible refine gate_callee (f := 26) rfl ?_); refine goesL_ (some 9) rfl rfl Try.func26 (by kernel_rfl) rfl #[.int .u64 a0] rfl (by (try simp only [List.map_toArray, List.map_cons, List.map_nil]); first | done | rfl | (simp only [List.length_drop, List.length_take]; rfl)) ?_; (with_reducible refine (export_Decimal.calls k a0 t108 _ A4.out).mono ?_); rintro e w5 ⟨rfl, hb⟩; refine ⟨_, rfl, ?_⟩; have n0_ := Aside0.mk (below_step (by repeat (first | (with_reducible first | exact HB.out | apply below_alloc | apply pw_below_drewN | apply below_drew1) | exact HB.out)) hb); clear HB; have HB := n0_; clear n0_; (try clear hb); (try clear hb2); (try clear hk); (try clear hi)))
  go_loopg [7] k (fun kq v7 w' => ∃ (x7_1 : ByteArray), v7 = .string x7_1 ∧ Aside0 (format_pad.l0 kq a1 a2 x7_1 = some r) ∧ Aside0 (kq ≤ k) ∧ Aside0 (Below w.heap.size w w'))
  case atStart => exact ⟨(t108), (by first | rfl | (simp; done) | (simp [*]; done) | exact isEmpty_bne _), H', ⟨Nat.le_refl _⟩, ⟨by repeat (first | (with_reducible first | exact HB.out | apply below_alloc | apply pw_below_drewN | apply below_drew1) | exact HB.out)⟩⟩
  case round =>
    clear H'
    try clear c2
    try clear p2
    obtain ⟨x7_1, rfl, HA, HK1, HB⟩ := hrel
    cases gk with
    | zero => exact absurd HA.out (by simp [format_pad.l0])
    | succ k1 =>
      have H := HA.out
      clear HA
      simp only [format_pad.l0] at H
      by_cases c6 : (x7_1.size : Int) < a1
      · rw [if_pos c6] at H
        have c6b0 : decide ((x7_1.size : Int) < a1) = true := decide_eq_true c6
        clear c6
        by_cases c7 : a2.size + x7_1.size ≤ 9223372036854775807
        · rw [if_pos c7] at H
          have c7b0 := eq_true c7
          have c7b1 : decide (a2.size + x7_1.size ≤ 9223372036854775807) = true := decide_eq_true c7
          try have c7b2 : (9223372036854775807 < a2.size + x7_1.size) = False := eq_false (Nat.not_lt.2 c7)
          have H' := Aside0.mk H
          clear H
          go_wp2
          go_roundg k1
          case measure => have := HK1.out; omega
          case rel => exact ⟨(a2 ++ x7_1), (by first | rfl | (simp; done) | (simp [*]; done) | exact isEmpty_bne _), H', ⟨by have := HK1.out; omega⟩, ⟨by repeat (first | (with_reducible first | exact HB.out | apply below_alloc | apply pw_below_drewN | apply below_drew1) | exact HB.out)⟩⟩
        · rw [if_neg c7] at H
          exact absurd H (by simp)
      · rw [if_neg c6] at H
        have c6b0 : decide ((x7_1.size : Int) < a1) = false := decide_eq_false c6
        clear c6
        obtain rfl := Option.some.inj H
        go_wp2
        go_ret
        exact ⟨by first | rfl | (simp [errW_none, errW_some] <;> rfl) | (simp [*, errW_none, errW_some] <;> rfl), by repeat (first | (with_reducible first | exact HB.out | apply below_alloc | apply pw_below_drewN | apply below_drew1) | exact HB.out)⟩

end Go.Proofs.Ytbakfpiflcaacaa.PFormatTables
