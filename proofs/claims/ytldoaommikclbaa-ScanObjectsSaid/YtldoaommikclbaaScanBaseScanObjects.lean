/- What the scan laws lean on: numbers as bytes, read and written: in plain Lean. -/
import Derived.Test.YtldoaommikclbaaPScanObjectsx
import Derived.Test.YtldoaommikclbaaEvs
namespace Go.Proofs.Ytldoaommikclbaa.SBScanObjects
open Go.RowKit Go.Proofs.Ytldoaommikclbaa.PScanObjects Go.Proofs.YtldoaommikclbaaW.PrintWords Go.Proofs.YtldoaommikclbaaW.PrintLast Go.Proofs.YtldoaommikclbaaW.PrintMore Go.Proofs.Ytldoaommikclbaa.Evs Go.Proofs.Ytldoaommikclbaa.Conv
set_option linter.unusedVariables false
set_option linter.unusedSimpArgs false
abbrev Bytes (l : List Int) : Prop := ∀ x ∈ l, 0 ≤ x ∧ x ≤ 255
def leV : List Int → Int
  | [] => 0
  | b :: r => b + 256 * leV r
theorem leV_snoc : ∀ (l : List Int) (b : Int), leV (l ++ [b]) = leV l + 256 ^ l.length * b
  | [], b => by simp [leV]
  | x :: l, b => by
    rw [List.cons_append, leV, leV_snoc l b, leV, List.length_cons, Int.pow_succ, Int.mul_add, Int.add_assoc, ← Int.mul_assoc, Int.mul_comm 256 (256 ^ l.length)]
theorem leV_in : ∀ (l : List Int), Bytes l → 0 ≤ leV l ∧ leV l < 256 ^ l.length
  | [], _ => by simp [leV]
  | x :: l, h => by
    have hx := h x (by simp)
    have ih := leV_in l (fun y hy => h y (by simp [hy]))
    rw [leV, List.length_cons, Int.pow_succ]
    omega
theorem p64 : (256 : Int) ^ 8 = 18446744073709551616 := by decide
theorem p256 (i : Nat) (h : i ≤ 7) : (256 : Int) ^ i ≤ 72057594037927936 := by
  obtain rfl | rfl | rfl | rfl | rfl | rfl | rfl | rfl : i = 0 ∨ i = 1 ∨ i = 2 ∨ i = 3 ∨ i = 4 ∨ i = 5 ∨ i = 6 ∨ i = 7 := by omega
  all_goals decide
theorem leV_u64 {l : List Int} (h : Bytes l) (hl : l.length = 8) : 0 ≤ leV l ∧ leV l ≤ 18446744073709551615 := by
  have := leV_in l h
  rw [hl, p64] at this
  omega
theorem le_or (m d : Int) (h0 : 0 ≤ d) (h1 : d < 256) : bits .or .u64 (IntKind.u64.wrap (m * 256)) d = m * 256 % 18446744073709551616 + d := by
  rw [IntKind.wrap_u64]
  exact bits_join .u64 64 (by decide) wraps_u64 8 _ d (Int.emod_nonneg _ (by decide)) (by omega) (Int.emod_lt_of_pos _ (by decide)) h0 (by omega) (by omega)
theorem rd_at (L : List Int) (j : Nat) (hj : j < L.length) : L.drop j = rd L (j : Int) :: L.drop (j + 1) := by
  rw [List.drop_eq_getElem_cons hj]
  congr 1
  unfold rd
  rw [Int.toNat_natCast, List.getD_eq_getElem?_getD, List.getElem?_eq_getElem hj]
  rfl
theorem refget_go (B : List Int) (p : Nat) (hp : p + 8 ≤ B.length) (hb : Bytes B) (hl : B.length ≤ 10000000) : ∀ (d i : Nat), d + i = 8 → Ev (fun k => logbookref01_Get.l0 k B (p : Int) 8 (leV ((B.drop p).take i)) (256 ^ i % 18446744073709551616) (i : Int)) (leV ((B.drop p).take 8), true)
  | 0, i, hd => by
    obtain rfl : i = 8 := by omega
    exact Ev.step (fun k => logbookref01_Get.l0.eq_2 _ _ _ _ _ _ _) (Ev.neg (by decide) (Ev.now _))
  | d + 1, i, hd => by
    have ih := refget_go B p hp hb hl d (i + 1) (by omega)
    have hw : wrap64 ((p : Int) + (i : Int)) = ((p + i : Nat) : Int) := by
      unfold wrap64
      omega
    have hr := rd_at B (p + i) (by omega)
    have hx := hb (rd B ((p + i : Nat) : Int)) (List.mem_of_mem_drop (i := p + i) (by rw [hr]; simp))
    have ht : (B.drop p).take (i + 1) = (B.drop p).take i ++ [rd B ((p + i : Nat) : Int)] := by
      have hlen : i < (B.drop p).length := by rw [List.length_drop]; omega
      rw [List.take_succ_eq_append_getElem hlen]
      congr 2
      rw [List.getElem_drop]
      unfold rd
      rw [Int.toNat_natCast, List.getD_eq_getElem?_getD, List.getElem?_eq_getElem (by omega)]
      rfl
    refine Ev.step (fun k => logbookref01_Get.l0.eq_2 _ _ _ _ _ _ _) (Ev.pos (by omega) ?_)
    rw [hw]
    refine Ev.pos (by omega) (Ev.pos (by omega) ?_)
    have htl : ((B.drop p).take i).length = i := by
      rw [List.length_take, List.length_drop]
      omega
    have hq := leV_in ((B.drop p).take i) (fun y hy => hb y (List.mem_of_mem_drop (List.mem_of_mem_take hy)))
    rw [htl] at hq
    rw [ht, leV_snoc, htl] at ih
    generalize rd B ((p + i : Nat) : Int) = x at hx ih ⊢
    have hP := p256 i (by omega)
    have hP0 : (0 : Int) < 256 ^ i := Int.pow_pos (by decide)
    have hs : (256 : Int) ^ (i + 1) = 256 ^ i * 256 := Int.pow_succ _ _
    rw [hs] at ih
    generalize (256 : Int) ^ i = P at hq hP hP0 ih ⊢
    have h1 : P * x ≤ P * 255 := Int.mul_le_mul_of_nonneg_left hx.2 (by omega)
    have h0 : 0 ≤ P * x := Int.mul_nonneg (by omega) hx.1
    generalize hPx : P * x = y at h1 h0 ih
    rw [hP7 ⟨by omega, hP⟩, wu64 hx.1 (by omega), hPx, wu64 h0 (by omega), wu64 (by omega) (by omega), show wrap64 ((i : Int) + 1) = ((i + 1 : Nat) : Int) by unfold wrap64; omega]
    exact ih
where hP7 {P : Int} (h : 0 ≤ P ∧ P ≤ 72057594037927936) : P % 18446744073709551616 = P := by omega
theorem refget_full (B : List Int) (p : Nat) (hp : p + 8 ≤ B.length) (hb : Bytes B) (hl : B.length ≤ 10000000) : Ev (fun k => logbookref01_Get.f k B (p : Int) 8) (leV ((B.drop p).take 8), true) := by
  have h := refget_go B p hp hb hl 8 0 rfl
  refine Ev.neg (by decide) (Ev.neg (by decide) (Ev.neg (by decide) (Ev.pos rfl (Ev.neg (by omega) (Ev.neg (by omega) ?_)))))
  rw [show decide ((8 : Int) > wrap64 ((B.length : Int) - (p : Int))) = false from decide_eq_false (by unfold wrap64; omega)]
  exact Ev.step (fun k => logbookref01_Get.j0.eq_2 _ _ _ _ _) (Ev.neg (by decide) h)
theorem refget_short (B : List Int) (p : Nat) (hp : B.length < p + 8) (hp2 : p ≤ 10000000) (hl : B.length ≤ 10000000) : Ev (fun k => logbookref01_Get.f k B (p : Int) 8) (0, false) := by
  refine Ev.neg (by decide) (Ev.neg (by decide) (Ev.neg (by decide) (Ev.pos rfl (Ev.neg (by omega) ?_))))
  refine Ev.both (fun h => Ev.step (fun k => logbookref01_Get.j0.eq_2 _ _ _ _ _) (Ev.pos rfl (Ev.now _))) (fun h => ?_)
  rw [show decide ((8 : Int) > wrap64 ((B.length : Int) - (p : Int))) = true from decide_eq_true (by unfold wrap64; omega)]
  exact Ev.step (fun k => logbookref01_Get.j0.eq_2 _ _ _ _ _) (Ev.pos rfl (Ev.now _))
theorem leGo_leV {W : List Int} (hW : W.length = 8) (hB : Bytes W) : leGo 8 (leV W) = W := by
  match W, hW with
  | [a, b, c, d, e, f, g, h], _ =>
    have ha := hB a (by simp)
    have hb := hB b (by simp)
    have hc := hB c (by simp)
    have hd := hB d (by simp)
    have he := hB e (by simp)
    have hf := hB f (by simp)
    have hg := hB g (by simp)
    have hh := hB h (by simp)
    simp only [leGo, leV, List.nil_append, List.cons_append]
    simp only [List.cons.injEq, and_true]
    refine ⟨?_, ?_, ?_, ?_, ?_, ?_, ?_, ?_⟩ <;> omega
/-! ### eight bytes at a place -/
theorem take_rd (B : List Int) (p j : Nat) (hj : j < 8) (hp : p + 8 ≤ B.length) : rd ((B.drop p).take 8) (j : Int) = rd B ((p + j : Nat) : Int) := by
  unfold rd
  rw [Int.toNat_natCast, Int.toNat_natCast, List.getD_eq_getElem?_getD, List.getD_eq_getElem?_getD, List.getElem?_take_of_lt hj, List.getElem?_drop]
theorem leget_go (B : List Int) (p : Nat) (hp : p + 8 ≤ B.length) (hb : Bytes B) (hl : B.length ≤ 10000000) : ∀ j : Nat, j ≤ 8 → Ev (fun k => le_Get.l0 k B (p : Int) (leV (((B.drop p).take 8).drop j)) ((j : Int) - 1)) (leV ((B.drop p).take 8), true)
  | 0, _ => Ev.step (fun k => le_Get.l0.eq_2 _ _ _ _ _) (Ev.neg (by omega) (Ev.now _))
  | j + 1, hj => by
    have ih := leget_go B p hp hb hl j (by omega)
    have hL : ((B.drop p).take 8).length = 8 := by rw [List.length_take, List.length_drop]; omega
    have hB : Bytes ((B.drop p).take 8) := fun y hy => hb y (List.mem_of_mem_drop (List.mem_of_mem_take hy))
    have hd := rd_at ((B.drop p).take 8) j (by omega)
    rw [take_rd B p j (by omega) hp] at hd
    have hw : wrap64 ((p : Int) + (((j + 1 : Nat) : Int) - 1)) = ((p + j : Nat) : Int) := by
      unfold wrap64
      omega
    have hx := hB (rd B ((p + j : Nat) : Int)) (List.mem_of_mem_drop (i := j) (by rw [hd]; simp))
    have hq := leV_in (((B.drop p).take 8).drop (j + 1)) (fun y hy => hB y (List.mem_of_mem_drop hy))
    rw [List.length_drop, hL] at hq
    have hp' := p256 (8 - (j + 1)) (by omega)
    refine Ev.step (fun k => le_Get.l0.eq_2 _ _ _ _ _) (Ev.pos (by omega) ?_)
    rw [hw]
    refine Ev.pos (by omega) (Ev.pos (by omega) ?_)
    rw [wu64 hx.1 (by omega), le_or _ _ hx.1 (by omega), show wrap64 (((j + 1 : Nat) : Int) - 1 - 1) = (j : Int) - 1 by unfold wrap64; omega]
    rw [hd, leV] at ih
    rw [show leV (((B.drop p).take 8).drop (j + 1)) * 256 % 18446744073709551616 + rd B ((p + j : Nat) : Int) = rd B ((p + j : Nat) : Int) + 256 * leV (((B.drop p).take 8).drop (j + 1)) by omega]
    exact ih
/-- the number of eight bytes at a place, and whether it is there -/
def g8 (B : List Int) (a : Int) : Int × Bool := if 0 ≤ a ∧ a + 8 ≤ (B.length : Int) then (leV ((B.drop a.toNat).take 8), true) else (0, false)
theorem g8_at {B : List Int} {p : Nat} (hp : p + 8 ≤ B.length) : g8 B (p : Int) = (leV ((B.drop p).take 8), true) := by
  unfold g8
  rw [if_pos (by omega), Int.toNat_natCast]
theorem g8_no {B : List Int} {a : Int} (h : ¬ (0 ≤ a ∧ a + 8 ≤ (B.length : Int))) : g8 B a = (0, false) := if_neg h
theorem leget_tells (B : List Int) (a : Int) (hb : Bytes B) (hl : B.length ≤ 10000000) (ha : -9223372036854775808 ≤ a ∧ a ≤ 9223372036854775807) : Ev (fun k => le_Get.f k B a 8) (g8 B a) := by
  by_cases h : 0 ≤ a ∧ a + 8 ≤ (B.length : Int)
  · obtain ⟨p, rfl⟩ := Int.eq_ofNat_of_zero_le h.1
    have hp : p + 8 ≤ B.length := by omega
    rw [g8_at hp]
    have hg := leget_go B p hp hb hl 8 (Nat.le_refl _)
    rw [List.drop_of_length_le (by rw [List.length_take, List.length_drop]; omega)] at hg
    have hf : le_fits.f B (p : Int) 8 = some true := by
      unfold le_fits.f
      rw [if_neg (by decide), if_neg (by decide), if_neg (by decide), if_pos rfl, if_pos (by omega), if_pos (by omega)]
      exact congrArg some (decide_eq_true (by unfold wrap64; omega))
    have e : ∀ k, le_Get.f k B (p : Int) 8 = le_Get.l0 k B (p : Int) (leV []) (((8 : Nat) : Int) - 1) := fun k => by
      unfold le_Get.f
      rw [hf, Option.bind_some, if_pos rfl, show wrap64 ((8 : Int) - 1) = ((8 : Nat) : Int) - 1 by unfold wrap64; omega]
      rfl
    exact Ev.congr e hg
  · rw [g8_no h]
    have hf : le_fits.f B a 8 = some false := by
      unfold le_fits.f
      rw [if_neg (by decide), if_neg (by decide), if_neg (by decide), if_pos rfl]
      by_cases h0 : a ≥ 0
      · rw [if_pos h0]
        by_cases h1 : a ≤ (B.length : Int)
        · rw [if_pos h1]
          exact congrArg some (decide_eq_false (by unfold wrap64; omega))
        · rw [if_neg h1]
      · rw [if_neg h0]
    have e : ∀ k, le_Get.f k B a 8 = some (0, false) := fun k => by
      unfold le_Get.f
      rw [hf]
      rfl
    exact Ev.congr e (Ev.now _)
theorem refget_tells (B : List Int) (a : Int) (hb : Bytes B) (hl : B.length ≤ 10000000) (ha : -9223372036854775808 ≤ a ∧ a ≤ 9223372036854775807) : Ev (fun k => logbookref01_Get.f k B a 8) (g8 B a) := by
  by_cases h : 0 ≤ a ∧ a + 8 ≤ (B.length : Int)
  · obtain ⟨p, rfl⟩ := Int.eq_ofNat_of_zero_le h.1
    have hp : p + 8 ≤ B.length := by omega
    rw [g8_at hp]
    exact refget_full B p hp hb hl
  · rw [g8_no h]
    refine Ev.neg (by decide) (Ev.neg (by decide) (Ev.neg (by decide) (Ev.pos rfl ?_)))
    refine Ev.both (fun h => Ev.step (fun k => logbookref01_Get.j0.eq_2 _ _ _ _ _) (Ev.pos rfl (Ev.now _))) (fun h0 => ?_)
    refine Ev.both (fun h => Ev.step (fun k => logbookref01_Get.j0.eq_2 _ _ _ _ _) (Ev.pos rfl (Ev.now _))) (fun h1 => ?_)
    rw [show decide ((8 : Int) > wrap64 ((B.length : Int) - a)) = true from decide_eq_true (by unfold wrap64; omega)]
    exact Ev.step (fun k => logbookref01_Get.j0.eq_2 _ _ _ _ _) (Ev.pos rfl (Ev.now _))
/-! ### words, fronts, sizes -/
def wn (kind : Int) : Int := if kind = 1 ∨ kind = 3 then 5 else if kind = 2 then 3 else if kind = 4 then 1 else 0
theorem words_tells (kind : Int) : Ev (fun k => obj_Words.f k kind) (wn kind) := by
  unfold wn
  by_cases h1 : kind = 1
  · subst h1
    exact Ev.pos rfl (Ev.step (fun k => obj_Words.j0.eq_2 _ _ _) (Ev.pos rfl (Ev.now _)))
  · refine Ev.neg h1 ?_
    by_cases h3 : kind = 3
    · subst h3
      exact Ev.step (fun k => obj_Words.j0.eq_2 _ _ _) (Ev.pos rfl (Ev.now _))
    · rw [if_neg (by omega)]
      refine Ev.step (fun k => obj_Words.j0.eq_2 _ _ _) (Ev.neg (by simp [h3]) ?_)
      by_cases h2 : kind = 2
      · simp only [if_pos h2]
        exact Ev.now _
      · simp only [if_neg h2]
        by_cases h4 : kind = 4
        · simp only [if_pos h4]
          exact Ev.now _
        · simp only [if_neg h4]
          exact Ev.now _
theorem refwords_tells (kind : Int) : Ev (fun k => logbookref09_Words.f k kind) (wn kind) := by
  unfold wn
  by_cases h1 : kind = 1
  · subst h1
    exact Ev.pos rfl (Ev.step (fun k => logbookref09_Words.j0.eq_2 _ _ _) (Ev.pos rfl (Ev.now _)))
  · refine Ev.neg h1 ?_
    by_cases h3 : kind = 3
    · subst h3
      exact Ev.step (fun k => logbookref09_Words.j0.eq_2 _ _ _) (Ev.pos rfl (Ev.now _))
    · rw [if_neg (by omega)]
      refine Ev.step (fun k => logbookref09_Words.j0.eq_2 _ _ _) (Ev.neg (by simp [h3]) ?_)
      by_cases h2 : kind = 2
      · simp only [if_pos h2]
        exact Ev.now _
      · simp only [if_neg h2]
        by_cases h4 : kind = 4
        · simp only [if_pos h4]
          exact Ev.now _
        · simp only [if_neg h4]
          exact Ev.now _
theorem wn_in (kind : Int) : 0 ≤ wn kind ∧ wn kind ≤ 5 := by
  unfold wn
  split
  · omega
  · split
    · omega
    · split <;> omega
theorem front_tells (kind : Int) : Ev (fun k => obj_Front.f k kind) (16 + 8 * wn kind) := by
  have h := wn_in kind
  refine Ev.bind (words_tells kind) ?_
  rw [w64 (x := 8 * wn kind) (by omega) (by omega), w64 (by omega) (by omega)]
  exact Ev.now _
/-- whether an object may be -/
def rightB (kind : Int) (nw nr ni : Nat) : Bool :=
  if wn kind = 0 ∨ (nw : Int) ≠ wn kind then false
  else if kind = 1 then decide (ni = 0 ∧ 1 ≤ nr ∧ nr ≤ 1024) else if kind = 2 then decide (ni = 0 ∧ 1 ≤ nr ∧ nr ≤ 64) else if kind = 3 then decide (nr = 0 ∧ 1 ≤ ni ∧ ni ≤ 64) else decide (nr = 0 ∧ 1 ≤ ni ∧ ni ≤ 1024)
theorem three {P Q : Prop} [Decidable P] [Decidable Q] {b : Bool} {r : Bool} {a : Prop} [Decidable a] (h : r = decide (P ∧ Q ∧ a)) (hb : b = decide a) : Ev (fun _ : Nat => if P then (if Q then some b else some false) else some false) r := by
  subst h
  subst hb
  by_cases p : P
  · by_cases q : Q
    · exact Ev.pos p (Ev.pos q (Ev.eq (Ev.now _) (by simp [p, q])))
    · exact Ev.pos p (Ev.neg q (Ev.eq (Ev.now _) (by simp [q])))
  · exact Ev.neg p (Ev.eq (Ev.now _) (by simp [p]))
theorem right_tells (kind : Int) (ws raw its : List Int) : Ev (fun k => obj_Right.f k kind ws raw its) (rightB kind ws.length raw.length its.length) := by
  have hw := wn_in kind
  refine Ev.bind (words_tells kind) ?_
  unfold rightB
  by_cases h0 : wn kind = 0
  · exact Ev.pos h0 (Ev.step (fun k => obj_Right.j0.eq_2 _ _ _ _ _ _) (Ev.pos rfl (Ev.eq (Ev.now _) (by simp [h0]))))
  · refine Ev.neg h0 (Ev.step (fun k => obj_Right.j0.eq_2 _ _ _ _ _ _) ?_)
    by_cases h1 : (ws.length : Int) = wn kind
    · refine Ev.neg (by simp [h1]) ?_
      have hn : ¬ (wn kind = 0 ∨ (ws.length : Int) ≠ wn kind) := by omega
      refine Ev.both (fun e => Ev.eq (three rfl rfl) ?_) (fun e => ?_)
      · rw [if_neg hn, if_pos e]
        simp only [decide_eq_decide]
        omega
      · refine Ev.both (fun e2 => Ev.eq (three rfl rfl) ?_) (fun e2 => ?_)
        · rw [if_neg hn, if_neg e, if_pos e2]
          simp only [decide_eq_decide]
          omega
        · refine Ev.both (fun e3 => Ev.eq (three rfl rfl) ?_) (fun e3 => Ev.eq (three rfl rfl) ?_)
          · rw [if_neg hn, if_neg e, if_neg e2, if_pos e3]
            simp only [decide_eq_decide]
            omega
          · rw [if_neg hn, if_neg e, if_neg e2, if_neg e3]
            simp only [decide_eq_decide]
            omega
    · exact Ev.pos (by simp [h1]) (Ev.eq (Ev.now _) (by simp [h1]))
theorem refright_tells (kind : Int) (ws raw its : List Int) : Ev (fun k => logbookref09_Right.f k kind ws raw its) (rightB kind ws.length raw.length its.length) := by
  have hw := wn_in kind
  refine Ev.bind (refwords_tells kind) ?_
  unfold rightB
  by_cases h0 : wn kind = 0
  · exact Ev.pos h0 (Ev.step (fun k => logbookref09_Right.j0.eq_2 _ _ _ _ _ _) (Ev.pos rfl (Ev.eq (Ev.now _) (by simp [h0]))))
  · refine Ev.neg h0 (Ev.bind (refwords_tells kind) (Ev.step (fun k => logbookref09_Right.j0.eq_2 _ _ _ _ _ _) ?_))
    by_cases h1 : (ws.length : Int) = wn kind
    · refine Ev.neg (by simp [h1]) ?_
      have hn : ¬ (wn kind = 0 ∨ (ws.length : Int) ≠ wn kind) := by omega
      refine Ev.both (fun e => Ev.eq (three rfl rfl) ?_) (fun e => ?_)
      · rw [if_neg hn, if_pos e]
        simp only [decide_eq_decide]
        omega
      · refine Ev.both (fun e2 => Ev.eq (three rfl rfl) ?_) (fun e2 => ?_)
        · rw [if_neg hn, if_neg e, if_pos e2]
          simp only [decide_eq_decide]
          omega
        · refine Ev.both (fun e3 => Ev.eq (three rfl rfl) ?_) (fun e3 => Ev.eq (three rfl rfl) ?_)
          · rw [if_neg hn, if_neg e, if_neg e2, if_pos e3]
            simp only [decide_eq_decide]
            omega
          · rw [if_neg hn, if_neg e, if_neg e2, if_neg e3]
            simp only [decide_eq_decide]
            omega
    · exact Ev.pos (by simp [h1]) (Ev.eq (Ev.now _) (by simp [h1]))
/-- the next multiple of eight -/
def al8 (n : Nat) : Nat := (n + 7) / 8 * 8
theorem and7 (x : Int) (h0 : 0 ≤ x) (h1 : x ≤ 1000000) : Go.bits .and .i64 x 7 = x % 8 :=
  bits_mask .i64 63 (by decide) (fun n h0 h1 => by rw [IntKind.wrap_i64]; omega) 3 (by decide) x h0 (by omega)
theorem align_tells (n : Nat) (hn : n ≤ 1000000) : le_Align.f (n : Int) = some (al8 n : Int) := by
  unfold le_Align.f al8
  by_cases h : (n : Int) ≤ 0
  · rw [if_pos h]
    congr 1
    omega
  · rw [if_neg h, and7 (n : Int) (by omega) (by omega), w64 (x := 8 - (n : Int) % 8) (by omega) (by omega), and7 (8 - (n : Int) % 8) (by omega) (by omega), w64 (by omega) (by omega)]
    congr 1
    omega
end Go.Proofs.Ytldoaommikclbaa.SBScanObjects
