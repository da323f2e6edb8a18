/- Plain laws of the policy: what 'Drop' of the program, and of the reference, tell: the least place from which on all may stay. -/
import Derived.Test.YtpmaihlmccebhaaPPolicyLessx3
import Derived.Test.YtpmaihlmccebhaaEvs
namespace Go.Proofs.Ytpmaihlmccebhaa.PolPolicyLess
open Go.RowKit Go.Proofs.YtpmaihlmccebhaaW.PrintWords Go.Proofs.Ytpmaihlmccebhaa.PPolicyLess Go.Proofs.Ytpmaihlmccebhaa.Evs
set_option linter.unusedVariables false
set_option linter.unusedSimpArgs false

def sumB : List S34 → Int
  | [] => 0
  | x :: r => x.f0 + sumB r
def Old (age now : Int) (x : S34) : Prop := age > 0 ∧ now ≥ x.f1 ∧ now - x.f1 > age
def Okay (B F age active now : Int) (l : List S34) (i : Nat) : Prop :=
  (∀ x ∈ l.drop i, ¬ Old age now x) ∧ (B ≤ 0 ∨ active + sumB (l.drop i) ≤ B) ∧ (F ≤ 0 ∨ (l.length : Int) - i + 1 ≤ F)
/-- The least place from which on all may stay. -/
def Least (B F age active now : Int) (l : List S34) (r : Int) : Prop :=
  ∃ m : Nat, r = m ∧ m ≤ l.length ∧ (m < l.length → Okay B F age active now l m) ∧ ∀ j, j < m → ¬ Okay B F age active now l j
theorem Least.same {B F age active now : Int} {l : List S34} {r s : Int} (h : Least B F age active now l r) (k : Least B F age active now l s) : r = s := by
  obtain ⟨m, rfl, hm, h1, h2⟩ := h
  obtain ⟨n, rfl, hn, k1, k2⟩ := k
  have : m = n := by
    rcases Nat.lt_trichotomy m n with h | h | h
    · exact absurd (h1 (by omega)) (k2 m h)
    · exact h
    · exact absurd (k1 (by omega)) (h2 n h)
  omega

/-- What came in is not too much. -/
structure Fine (l : List S34) : Prop where
  len : l.length ≤ 200
  bytes : ∀ x ∈ l, 0 ≤ x.f0 ∧ x.f0 ≤ 1099511627776 ∧ 0 ≤ x.f1 ∧ x.f1 ≤ 18446744073709551615
theorem Fine.tail {x : S34} {l : List S34} (h : Fine (x :: l)) : Fine l := ⟨by have := h.len; simp at this; omega, fun y hy => h.bytes y (by simp [hy])⟩
theorem Fine.sum : ∀ {l : List S34}, Fine l → 0 ≤ sumB l ∧ sumB l ≤ l.length * 1099511627776
  | [], _ => by simp [sumB]
  | x :: r, h => by
    have h1 := h.tail.sum
    have h2 := h.bytes x (by simp)
    simp only [sumB, List.length_cons]
    omega
theorem Fine.drop {l : List S34} (h : Fine l) (i : Nat) : Fine (l.drop i) := ⟨by have := h.len; simp; omega, fun x hx => h.bytes x (List.mem_of_mem_drop hx)⟩
theorem drop_cons {l : List S34} {i : Nat} (h : i < l.length) : l.drop i = rd_T34 l (i : Int) :: l.drop (i + 1) := by
  rw [List.drop_eq_getElem_cons h]
  congr 1
  simp [rd_T34, List.getD, h]
theorem rd_mem {l : List S34} {i : Nat} (h : i < l.length) : rd_T34 l (i : Int) ∈ l := by
  have : rd_T34 l (i : Int) = l[i] := by simp [rd_T34, List.getD, h]
  rw [this]
  exact List.getElem_mem h

theorem old_tells {a0 a1 a2 b0 b1 now : Int} (h1 : 0 ≤ b1) (h2 : 0 ≤ now) (h3 : now ≤ 18446744073709551615) : policy_Keep_old.f a0 a1 a2 b0 b1 now = some (decide (a2 > 0 ∧ now ≥ b1 ∧ now - b1 > a2)) := by
  unfold policy_Keep_old.f
  by_cases c1 : a2 > 0
  · rw [if_pos c1]
    by_cases c2 : now ≥ b1
    · rw [if_pos c2, wu64 (by omega) (by omega)]
      congr 1
      simp [c1, c2]
    · rw [if_neg c2]
      simp [c2]
  · rw [if_neg c1]
    simp [c1]

theorem gt_last {a b : Nat} (h : a ≤ b) : (b : Int) > (a : Int) - 1 := by omega
theorem le_last {a b : Nat} (h : (b : Int) > (a : Int) - 1) : a ≤ b := by omega
theorem not_lt_self {n m : Nat} (h : 0 + n = m) : ¬ (n : Int) < (m : Int) := by omega
theorem lt_cast {n m : Nat} (h : n < m) : (n : Int) < (m : Int) := by omega
theorem nat0 (n : Nat) : (0 : Int) ≤ (n : Int) := by omega
theorem wsucc {i n : Nat} (h : i < n) (hn : n ≤ 9223372036854775807) : wrap64 ((i : Int) + 1) = ((i + 1 : Nat) : Int) := by
  rw [w64 (by omega) (by omega)]
  omega
theorem wrest {i n : Nat} (h : i < n) (hn : n ≤ 200) : wrap64 (wrap64 ((n : Int) - i) + 1) = (n : Int) - i + 1 := by
  rw [w64 (x := (n : Int) - i) (by omega) (by omega), w64 (by omega) (by omega)]
theorem wminus {a s f r n : Int} (ha : 0 ≤ a ∧ a ≤ 1099511627776) (hr : 0 ≤ r ∧ r ≤ n * 1099511627776) (hn : n ≤ 200) (hs : s = f + r) : wrap64 (a + s - f) = a + r := by
  rw [w64 (by omega) (by omega)]
  omega
theorem wplus {a s f r n : Int} (ha : 0 ≤ a ∧ a ≤ 1099511627776) (hr : 0 ≤ r ∧ r ≤ n * 1099511627776) (hn : n ≤ 200) (hs : r = s + f) : wrap64 (a + s + f) = a + r := by
  rw [w64 (by omega) (by omega)]
  omega

section
variable {B F age active now : Int} {l : List S34}
theorem l2_tells (hl : Fine l) (hb : B ≤ 9223372036854775807) (ha : 0 ≤ active ∧ active ≤ 1099511627776) (last : Nat) (hlast : ∀ i : Nat, i < l.length → (last ≤ i ↔ ∀ x ∈ l.drop i, ¬ Old age now x)) :
    ∀ (d i : Nat), d + i = l.length → (∀ j, j < i → ¬ Okay B F age active now l j) → ∃ r, Ev (fun k => policy_Keep_Drop.l2 k l (active + sumB (l.drop i)) ((last : Int) - 1) l (l.length : Int) i B F age) r ∧ Least B F age active now l r
  | 0, i, hd, hj => ⟨l.length, Ev.step (fun k => policy_Keep_Drop.l2.eq_2 _ _ _ _ _ _ _ _ _ _) (Ev.neg (not_lt_self hd) (Ev.now _)), ⟨l.length, rfl, Nat.le_refl _, fun h => absurd h (Nat.lt_irrefl _), fun j h => hj j (by omega)⟩⟩
  | d + 1, i, hd, hj => by
    have hi : i < l.length := by omega
    have hil : i ≤ l.length := by omega
    have hd1 : d + (i + 1) = l.length := by omega
    have hjs : (¬ Okay B F age active now l i) → ∀ j, j < i + 1 → ¬ Okay B F age active now l j := fun hno j h => by
      by_cases e : j = i
      · rw [e]; exact hno
      · exact hj j (by omega)
    have c1 := lt_cast hi
    have c0 := nat0 i
    have hw := wrest hi hl.len
    have hw2 : wrap64 (active + sumB (l.drop i) - (rd_T34 l i).f0) = active + sumB (l.drop (i + 1)) :=
      wminus (n := ((l.drop (i + 1)).length : Int)) ha (hl.drop (i + 1)).sum (Int.ofNat_le.2 (hl.drop (i + 1)).len) (by rw [drop_cons hi]; rfl)
    have hw3 := wsucc hi (Nat.le_trans hl.len (by decide))
    have hgo : (¬ Okay B F age active now l i) → ∃ r, Ev (fun k => policy_Keep_Drop.l2 k l (wrap64 (active + sumB (l.drop i) - (rd_T34 l i).f0)) ((last : Int) - 1) l (l.length : Int) (wrap64 ((i : Int) + 1)) B F age) r ∧ Least B F age active now l r := by
      intro hno
      rw [hw2, hw3]
      exact l2_tells hl hb ha last hlast d (i + 1) hd1 (hjs hno)
    have hyes : Okay B F age active now l i → Least B F age active now l i := fun h => ⟨i, rfl, hil, fun _ => h, hj⟩
    by_cases hok : Okay B F age active now l i
    · obtain ⟨h1, h2, h3⟩ := id hok
      refine ⟨i, Ev.step (fun k => policy_Keep_Drop.l2.eq_2 _ _ _ _ _ _ _ _ _ _) ?_, hyes hok⟩
      refine Ev.pos c1 (Ev.pos c0 (Ev.pos c1 (Ev.pos (gt_last ((hlast i hi).2 h1)) ?_)))
      refine Ev.both (fun c => ?_) (fun c => Ev.pos (h2.resolve_left c) ?_)
      · refine Ev.both (fun _ => Ev.now _) (fun c2 => ?_)
        rw [hw]
        exact Ev.pos (h3.resolve_left c2) (Ev.now _)
      · refine Ev.both (fun _ => Ev.now _) (fun c2 => ?_)
        rw [hw]
        exact Ev.pos (h3.resolve_left c2) (Ev.now _)
    · obtain ⟨r, hr, hle⟩ := hgo hok
      refine ⟨r, Ev.step (fun k => policy_Keep_Drop.l2.eq_2 _ _ _ _ _ _ _ _ _ _) ?_, hle⟩
      refine Ev.pos c1 (Ev.pos c0 (Ev.pos c1 (Ev.both (fun cl => ?_) (fun _ => hr))))
      have h1 := (hlast i hi).1 (le_last cl)
      refine Ev.both (fun c => Ev.both (fun c2 => ?_) (fun c2 => ?_)) (fun c => Ev.both (fun c2 => Ev.both (fun c3 => ?_) (fun c3 => ?_)) (fun c2 => hr))
      · exact absurd ⟨h1, .inl c, .inl c2⟩ hok
      · rw [hw]
        exact Ev.neg (fun c3 => hok ⟨h1, .inl c, .inr c3⟩) hr
      · exact absurd ⟨h1, .inr c2, .inl c3⟩ hok
      · rw [hw]
        exact Ev.neg (fun c4 => hok ⟨h1, .inr c2, .inr c4⟩) hr

/-- Where the last one that is too old stands: behind it. -/
theorem l1_tells (hl : Fine l) (hb : B ≤ 9223372036854775807) (ha : 0 ≤ active ∧ active ≤ 1099511627776) (hn : 0 ≤ now ∧ now ≤ 18446744073709551615) :
    ∀ (d i last : Nat), d + i = l.length → last ≤ i → (∀ j : Nat, last ≤ j → j < i → ¬ Old age now (rd_T34 l j)) → (∀ j : Nat, j + 1 = last → Old age now (rd_T34 l j)) →
      ∃ r, Ev (fun k => policy_Keep_Drop.l1 k now l (active + sumB l) ((last : Int) - 1) l (l.length : Int) i B F age) r ∧ Least B F age active now l r
  | 0, i, last, hd, hli, hno, hyes => by
    have hlast : ∀ i : Nat, i < l.length → (last ≤ i ↔ ∀ x ∈ l.drop i, ¬ Old age now x) := by
      intro q hq
      constructor
      · intro hle x hx
        obtain ⟨p, hp, rfl⟩ := List.getElem_of_mem hx
        simp only [List.length_drop] at hp
        have := hno (q + p) (by omega) (by omega)
        have hqp : q + p < l.length := by omega
        have e : rd_T34 l ((q + p : Nat) : Int) = (l.drop q)[p]'(by simp; omega) := by simp [rd_T34, List.getD, hqp, -Int.natCast_add]
        rw [e] at this
        exact this
      · intro hall
        apply Nat.le_of_not_lt
        intro hlt
        obtain ⟨j, rfl⟩ : ∃ j, last = j + 1 := ⟨last - 1, by omega⟩
        refine hall (rd_T34 l (j : Int)) ?_ (hyes j rfl)
        have hjl : j < l.length := by omega
        have : rd_T34 l (j : Int) = (l.drop q)[j - q]'(by simp; omega) := by simp [rd_T34, List.getD, hjl, show q + (j - q) = j by omega]
        rw [this]
        exact List.getElem_mem _
    obtain ⟨r, hr, hle⟩ := l2_tells (B := B) (F := F) (active := active) hl hb ha last hlast l.length 0 (by omega) (fun j h => absurd h (Nat.not_lt_zero j))
    exact ⟨r, Ev.step (fun k => policy_Keep_Drop.l1.eq_2 _ _ _ _ _ _ _ _ _ _ _) (Ev.neg (not_lt_self hd) hr), hle⟩
  | d + 1, i, last, hd, hli, hno, hyes => by
    have hi : i < l.length := by omega
    have hbx := hl.bytes _ (rd_mem hi)
    have c1 := lt_cast hi
    have c0 := nat0 i
    have hw3 := wsucc hi (Nat.le_trans hl.len (by decide))
    by_cases ho : Old age now (rd_T34 l i)
    · obtain ⟨r, hr, hle⟩ := l1_tells hl hb ha hn d (i + 1) (i + 1) (by omega) (Nat.le_refl _) (fun j h1 h2 => by omega) (fun j h => by
        obtain rfl : j = i := by omega
        exact ho)
      refine ⟨r, Ev.step (fun k => policy_Keep_Drop.l1.eq_2 _ _ _ _ _ _ _ _ _ _ _) ?_, hle⟩
      refine Ev.pos c1 (Ev.pos c0 (Ev.pos c1 (Ev.bindc (old_tells hbx.2.2.1 hn.1 hn.2) (Ev.pos (by rw [decide_eq_true_eq]; exact ho) ?_))))
      rw [hw3]
      have e : ((i + 1 : Nat) : Int) - 1 = (i : Int) := by omega
      rw [e] at hr
      exact hr
    · obtain ⟨r, hr, hle⟩ := l1_tells hl hb ha hn d (i + 1) last (by omega) (by omega) (fun j h1 h2 => by
        by_cases e : j = i
        · rw [e]; exact ho
        · exact hno j h1 (by omega)) hyes
      refine ⟨r, Ev.step (fun k => policy_Keep_Drop.l1.eq_2 _ _ _ _ _ _ _ _ _ _ _) ?_, hle⟩
      refine Ev.pos c1 (Ev.pos c0 (Ev.pos c1 (Ev.bindc (old_tells hbx.2.2.1 hn.1 hn.2) (Ev.neg (by rw [decide_eq_true_eq]; exact ho) ?_))))
      rw [hw3]
      exact hr

theorem sumB_take_succ {i : Nat} (hi : i < l.length) : sumB (l.take (i + 1)) = sumB (l.take i) + (rd_T34 l i).f0 := by
  have h : ∀ (a b : List S34), sumB (a ++ b) = sumB a + sumB b := by
    intro a b
    induction a with
    | nil => simp [sumB]
    | cons x a ih => simp only [List.cons_append, sumB, ih]; omega
  rw [List.take_succ_eq_append_getElem hi, h]
  simp [sumB, rd_T34, List.getD, hi]
theorem Fine.take {l : List S34} (h : Fine l) (i : Nat) : Fine (l.take i) := ⟨by have := h.len; simp; omega, fun x hx => h.bytes x (List.mem_of_mem_take hx)⟩

theorem l0_tells (hl : Fine l) (hb : B ≤ 9223372036854775807) (ha : 0 ≤ active ∧ active ≤ 1099511627776) (hn : 0 ≤ now ∧ now ≤ 18446744073709551615) :
    ∀ (d i : Nat), d + i = l.length → ∃ r, Ev (fun k => policy_Keep_Drop.l0 k now l (active + sumB (l.take i)) l (l.length : Int) i B F age) r ∧ Least B F age active now l r
  | 0, i, hd => by
    obtain ⟨r, hr, hle⟩ := l1_tells (B := B) (F := F) (age := age) hl hb ha hn l.length 0 0 (by omega) (Nat.le_refl _) (fun j h1 h2 => by omega) (fun j h => by omega)
    refine ⟨r, Ev.step (fun k => policy_Keep_Drop.l0.eq_2 _ _ _ _ _ _ _ _ _ _) (Ev.neg (not_lt_self hd) ?_), hle⟩
    rw [List.take_of_length_le (by omega)]
    exact hr
  | d + 1, i, hd => by
    have hi : i < l.length := by omega
    have c1 := lt_cast hi
    have c0 := nat0 i
    obtain ⟨r, hr, hle⟩ := l0_tells hl hb ha hn d (i + 1) (by omega)
    refine ⟨r, Ev.step (fun k => policy_Keep_Drop.l0.eq_2 _ _ _ _ _ _ _ _ _ _) ?_, hle⟩
    refine Ev.pos c1 (Ev.pos c0 (Ev.pos c1 ?_))
    have e1 : wrap64 (active + sumB (l.take i) + (rd_T34 l i).f0) = active + sumB (l.take (i + 1)) :=
      wplus (n := ((l.take (i + 1)).length : Int)) ha (hl.take (i + 1)).sum (Int.ofNat_le.2 (hl.take (i + 1)).len) (sumB_take_succ hi)
    rw [e1, wsucc hi (Nat.le_trans hl.len (by decide))]
    exact hr
theorem drop_tells (hl : Fine l) (hb : B ≤ 9223372036854775807) (ha : 0 ≤ active ∧ active ≤ 1099511627776) (hn : 0 ≤ now ∧ now ≤ 18446744073709551615) (z : Int) :
    ∃ r, Ev (fun k => policy_Keep_Drop.f k B F age active z now l) r ∧ Least B F age active now l r := by
  obtain ⟨r, hr, hle⟩ := l0_tells (B := B) (F := F) (age := age) hl hb ha hn l.length 0 (by omega)
  refine ⟨r, ?_, hle⟩
  have e : active + sumB (l.take 0) = active := by simp [sumB]
  rw [e] at hr
  exact hr
end

/-! ### what came in -/
def conv (x : S36) : S34 := ⟨x.f0, x.f1⟩
def GoodT (l : List S36) : Prop := ∀ x ∈ l, 0 ≤ x.f1 ∧ x.f1 ≤ 18446744073709551615
theorem infos_go (l : List S36) (hln : l.length ≤ 9223372036854775807) (hg : GoodT l) : ∀ (d i : Nat), d + i = l.length → i ≤ 200 → (∀ x ∈ l.take i, 0 ≤ x.f0 ∧ x.f0 ≤ 1099511627776) →
    ∃ r b, Ev (fun k => logbooklaw23_infos.l0 k l ((l.take i).map conv) i) (r, b) ∧ (b = true → r = l.map conv ∧ Fine (l.map conv))
  | 0, i, hd, h2, h3 => by
    have ht : l.take i = l := List.take_of_length_le (by omega)
    rw [ht] at h3
    refine ⟨l.map conv, decide ((l.length : Int) ≤ 200), Ev.step (fun k => logbooklaw23_infos.l0.eq_2 _ _ _ _) (Ev.neg (by omega) (Ev.step (fun k => logbooklaw23_infos.j1.eq_2 _ _ _ _ _) (Ev.neg (by decide) ?_))), fun hb => ⟨rfl, ?_, ?_⟩⟩
    · rw [ht]
      exact Ev.now _
    · have := of_decide_eq_true hb
      simp
      omega
    · intro x hx
      obtain ⟨y, hy, rfl⟩ := List.mem_map.1 hx
      have h4 := h3 y hy
      exact ⟨h4.1, h4.2, hg y hy⟩
  | d + 1, i, hd, h2, h3 => by
    have hi : i < l.length := by omega
    have hrd : rd_T36 l (i : Int) = l[i] := by simp [rd_T36, List.getD, hi]
    by_cases h200 : i < 200
    · by_cases hb1 : (rd_T36 l (i : Int)).f0 < 0
      · refine ⟨[], false, Ev.step (fun k => logbooklaw23_infos.l0.eq_2 _ _ _ _) (Ev.pos (by omega) (Ev.step (fun k => logbooklaw23_infos.j1.eq_2 _ _ _ _ _) (Ev.pos (by simp; omega) ?_))), fun h => by cases h⟩
        exact Ev.pos (by omega) (Ev.pos (by omega) (Ev.pos hb1 (Ev.now _)))
      by_cases hb2 : (rd_T36 l (i : Int)).f0 > 1099511627776
      · refine ⟨[], false, Ev.step (fun k => logbooklaw23_infos.l0.eq_2 _ _ _ _) (Ev.pos (by omega) (Ev.step (fun k => logbooklaw23_infos.j1.eq_2 _ _ _ _ _) (Ev.pos (by simp; omega) ?_))), fun h => by cases h⟩
        exact Ev.pos (by omega) (Ev.pos (by omega) (Ev.neg hb1 (Ev.pos hb2 (Ev.now _))))
      have ht : l.take (i + 1) = l.take i ++ [l[i]] := List.take_succ_eq_append_getElem hi
      obtain ⟨r, b, hr, hh⟩ := infos_go l hln hg d (i + 1) (by omega) (by omega) (by
        intro x hx
        rw [ht, List.mem_append] at hx
        rcases hx with hx | hx
        · exact h3 x hx
        · rw [List.mem_singleton.1 hx, ← hrd]
          omega)
      refine ⟨r, b, Ev.step (fun k => logbooklaw23_infos.l0.eq_2 _ _ _ _) (Ev.pos (by omega) (Ev.step (fun k => logbooklaw23_infos.j1.eq_2 _ _ _ _ _) (Ev.pos (by simp; omega) ?_))), hh⟩
      refine Ev.pos (by omega) (Ev.pos (by omega) (Ev.neg hb1 (Ev.neg hb2 (Ev.pos ?_ ?_))))
      · simp
        omega
      · have e2 : wrap64 ((i : Int) + 1) = ((i + 1 : Nat) : Int) := by rw [w64 (by omega) (by omega)]; omega
        have e3 : (l.take i).map conv ++ [(⟨(rd_T36 l (i : Int)).f0, (rd_T36 l (i : Int)).f1⟩ : S34)] = (l.take (i + 1)).map conv := by
          rw [ht, hrd, List.map_append]
          rfl
        rw [e2, e3]
        exact hr
    · refine ⟨(l.take i).map conv, decide ((l.length : Int) ≤ 200), Ev.step (fun k => logbooklaw23_infos.l0.eq_2 _ _ _ _) (Ev.pos (by omega) (Ev.step (fun k => logbooklaw23_infos.j1.eq_2 _ _ _ _ _) (Ev.neg (by simp; omega) (Ev.now _)))), fun hb => ?_⟩
      have := of_decide_eq_true hb
      omega
theorem infos_tells (l : List S36) (hln : l.length ≤ 9223372036854775807) (hg : GoodT l) : ∃ r b, Ev (fun k => logbooklaw23_infos.f k l) (r, b) ∧ (b = true → r = l.map conv ∧ Fine (l.map conv)) :=
  infos_go l hln hg l.length 0 (by omega) (by omega) (by simp)

theorem awake_tells : Ev (fun k => logbooklaw23_awake.f k) true := by
  have hf : Fine (List.replicate 4 z34) := ⟨by simp, fun x hx => by
    rw [List.eq_of_mem_replicate hx]
    simp [z34]⟩
  obtain ⟨r, hr, m, rfl, hm, h1, h2⟩ := drop_tells (B := 0) (F := 2) (age := 0) (active := 0) (now := 0) hf (by omega) (by omega) (by omega) 0
  refine Ev.pos (by omega) (Ev.bind hr ?_)
  have hn : ∀ x : S34, ¬ Old 0 0 x := fun x h => by
    have := h.1
    omega
  have h3 : m = 3 := by
    have a2 : Okay 0 2 0 0 0 (List.replicate 4 z34) 3 := ⟨fun x _ => hn x, .inl (by omega), .inr (by simp)⟩
    have hle : m ≤ 3 := Nat.le_of_not_lt (fun h => h2 3 h a2)
    have hlt : m < (List.replicate 4 z34).length := by
      rw [List.length_replicate]
      omega
    obtain ⟨_, _, h5⟩ := h1 hlt
    rw [List.length_replicate] at h5
    omega
  rw [h3]
  exact Ev.now _
end Go.Proofs.Ytpmaihlmccebhaa.PolPolicyLess
