/- PolicyLess: with less that may stay, or later, no fewer files go; what stays is no more than may stay, or nothing is left to go; in plain Lean. -/
import Derived.Test.YtpmaihlmccebhaaPolPolicyLess
namespace Go.Proofs.Ytpmaihlmccebhaa.PurePolicyLess
open Go.RowKit Go.Proofs.YtpmaihlmccebhaaW.PrintWords Go.Proofs.Ytpmaihlmccebhaa.PPolicyLess Go.Proofs.Ytpmaihlmccebhaa.Evs Go.Proofs.Ytpmaihlmccebhaa.PolPolicyLess
set_option linter.unusedVariables false
set_option linter.unusedSimpArgs false

theorem least_le {B F age active now B' F' age' now' : Int} {l : List S34} {a b : Int} (h : Least B F age active now l a) (k : Least B' F' age' active now' l b)
    (him : ∀ i, Okay B' F' age' active now' l i → Okay B F age active now l i) : a ≤ b := by
  obtain ⟨m, rfl, hm, h1, h2⟩ := h
  obtain ⟨n, rfl, hn, k1, k2⟩ := k
  have : m ≤ n := by
    apply Nat.le_of_not_lt
    intro hlt
    exact h2 n hlt (him n (k1 (by omega)))
  omega
theorem okay_less {B F age active now d q : Int} {l : List S34} (hB : 300 ≤ B) (hF : 300 ≤ F) (hA : 300 ≤ age) (hd : 0 ≤ d ∧ d ≤ 255) (hq : 0 ≤ q) (i : Nat)
    (h : Okay (B - d) (F - d) (age - d) active (now + q) l i) : Okay B F age active now l i := by
  obtain ⟨h1, h2, h3⟩ := h
  refine ⟨fun x hx ho => h1 x hx ?_, .inr ?_, .inr ?_⟩
  · obtain ⟨a, b, c⟩ := ho
    exact ⟨by omega, by omega, by omega⟩
  · rcases h2 with h2 | h2 <;> omega
  · rcases h3 with h3 | h3 <;> omega
section
variable {B F age active now : Int}
theorem rd_conv {l : List S36} {i : Nat} (h : i < l.length) : conv (rd_T36 l (i : Int)) = rd_T34 (l.map conv) (i : Int) := by
  simp [rd_T36, rd_T34, List.getD, h]
theorem le_refl_list {l : List S36} {n : Nat} (hd : 0 + n = l.length) : ¬ (n : Int) < (l.length : Int) := not_lt_self hd
/-- The last round: what stays. -/
theorem l0_tells (l : List S36) (hl : Fine (l.map conv)) (hB : B ≤ 9223372036854775807) (ha : 0 ≤ active ∧ active ≤ 1099511627776) (m : Nat) (b : Int) (hm : m ≤ l.length) (hmb : (m : Int) ≤ b) (hok : m < l.length → active + sumB ((l.map conv).drop m) ≤ B) :
    ∀ (d i : Nat), d + i = l.length → m ≤ i → Ev (fun k => logbooklaw23_PolicyLess.l0 k l m b (active + sumB (((l.map conv).take i).drop m)) i B F age) true
  | 0, i, hd, hmi => by
    have ht : (l.map conv).take i = l.map conv := List.take_of_length_le (by simp; omega)
    rw [ht]
    refine Ev.step (fun k => logbooklaw23_PolicyLess.l0.eq_2 _ _ _ _ _ _ _ _ _) (Ev.neg (not_lt_self hd) (Ev.pos hmb (Ev.pos (nat0 m) (Ev.pos (Int.ofNat_le.2 hm) ?_))))
    refine Ev.both (fun _ => Ev.bind awake_tells (Ev.now _)) (fun c => ?_)
    refine Ev.pos ?_ (Ev.bind awake_tells (Ev.now _))
    have : ¬ m < l.length := fun h => c (hok h)
    have e : m = l.length := by omega
    rw [e]
  | d + 1, i, hd, hmi => by
    have hi : i < l.length := by omega
    have him : i < (l.map conv).length := by rw [List.length_map]; exact hi
    have hll : l.length ≤ 200 := by
      have := hl.len
      rwa [List.length_map] at this
    have c1 := lt_cast hi
    have hrc := rd_conv hi
    have hs : ((l.map conv).take (i + 1)).drop m = ((l.map conv).take i).drop m ++ [rd_T34 (l.map conv) i] := by
      have h1 : (l.map conv)[i] = rd_T34 (l.map conv) (i : Int) := by simp only [rd_T34, List.getD, Int.toNat_natCast, List.getElem?_eq_getElem him, Option.getD_some]
      rw [List.take_succ_eq_append_getElem him, List.drop_append_of_le_length (by simp; omega), h1]
    have hsum : sumB (((l.map conv).take (i + 1)).drop m) = sumB (((l.map conv).take i).drop m) + (rd_T36 l (i : Int)).f0 := by
      have h : ∀ (a b : List S34), sumB (a ++ b) = sumB a + sumB b := by
        intro a b
        induction a with
        | nil => simp [sumB]
        | cons x a ih => simp only [List.cons_append, sumB, ih]; omega
      rw [hs, h, ← hrc]
      simp [sumB, conv]
    have e1 : wrap64 (active + sumB (((l.map conv).take i).drop m) + (rd_T36 l (i : Int)).f0) = active + sumB (((l.map conv).take (i + 1)).drop m) :=
      wplus (n := ((((l.map conv).take (i + 1)).drop m).length : Int)) ha ((hl.take (i + 1)).drop m).sum (Int.ofNat_le.2 ((hl.take (i + 1)).drop m).len) hsum
    refine Ev.step (fun k => logbooklaw23_PolicyLess.l0.eq_2 _ _ _ _ _ _ _ _ _) (Ev.pos c1 (Ev.pos (nat0 i) ?_))
    rw [e1, wsucc hi (Nat.le_trans hll (by decide))]
    exact l0_tells l hl hB ha m b hm hmb hok d (i + 1) (by omega) (by omega)
end
theorem mnmx {m n : Nat} (h : m ≤ n) : mn (mx (m : Int) 0) (n : Int) = (m : Int) := by
  unfold mn mx
  omega
theorem wsmall {x : Int} (h : 0 ≤ x ∧ x ≤ 65535) : wrap64 x = x ∧ IntKind.u64.wrap x = x := ⟨w64 (by omega) (by omega), wu64 (by omega) (by omega)⟩
theorem wless {a d : Int} (h : 300 ≤ a) (h2 : a ≤ 9223372036854775807) (hd : 0 ≤ d ∧ d ≤ 255) : wrap64 (a - d) = a - d := w64 (by omega) (by omega)
theorem wuless {a d : Int} (h : 300 ≤ a) (h2 : a ≤ 18446744073709551615) (hd : 0 ≤ d ∧ d ≤ 255) : IntKind.u64.wrap (a - d) = a - d := wu64 (by omega) (by omega)
theorem wulater {a d : Int} (h : 0 ≤ a) (h2 : a ≤ 4611686018427387904) (hd : 0 ≤ d ∧ d ≤ 65535) : IntKind.u64.wrap (a + d) = a + d := wu64 (by omega) (by omega)
theorem later_in {a d : Int} (h : 0 ≤ a) (h2 : a ≤ 4611686018427387904) (hd : 0 ≤ d ∧ d ≤ 65535) : 0 ≤ a + d ∧ a + d ≤ 18446744073709551615 := by omega
theorem less_in {a d : Int} (h2 : a ≤ 9223372036854775807) (hd : 0 ≤ d ∧ d ≤ 255) : a - d ≤ 9223372036854775807 := by omega
theorem byte_in {d : Int} (hd : 0 ≤ d ∧ d ≤ 255) : 0 ≤ d ∧ d ≤ 65535 := by omega

theorem PolicyLess (y0 : Int × Int × Int) (active now : Int) (l : List S36) (less later : Int) (w0 : (Lit.int .i64 y0.1).wf = true ∧ (Lit.int .i64 y0.2.1).wf = true ∧ (Lit.int .u64 y0.2.2).wf = true) (w1 : (Lit.int .i64 active).wf = true) (w2 : (Lit.int .u64 now).wf = true)
    (w3 : l.length ≤ maxLen ∧ l.length * 16 ≤ 140737488351232 ∧ ∀ x ∈ l, (Lit.int .i64 x.f0).wf = true ∧ (Lit.int .u64 x.f1).wf = true) (w4 : (Lit.int .u8 less).wf = true) (w5 : (Lit.int .u16 later).wf = true) :
    ∃ k, logbooklaw23_PolicyLess.f k y0.1 y0.2.1 y0.2.2 active now l less later = some true := by
  obtain ⟨B, F, age⟩ := y0
  have hg : GoodT l := fun x hx => wf_u64 (w3.2.2 x hx).2
  obtain ⟨r, b, hr, h⟩ := infos_tells l (Nat.le_trans w3.1 (by decide)) hg
  have hB2 : B ≤ 9223372036854775807 := (wf_i64 w0.1).2
  have hF2 : F ≤ 9223372036854775807 := (wf_i64 w0.2.1).2
  have hA2 : age ≤ 18446744073709551615 := (wf_u64 w0.2.2).2
  have hn2 := wf_u64 w2
  have hless := wf_u8 w4
  have hlater := wf_u16 w5
  clear w0 w1 w2 w4 w5
  refine Ev.at (Ev.bind hr ?_)
  have hyes : Ev (fun k => logbooklaw23_PolicyLess.j0 k active now l less later r true B F age) true :=
    Ev.step (fun k => logbooklaw23_PolicyLess.j0.eq_2 _ _ _ _ _ _ _ _ _ _ _) (Ev.pos rfl (Ev.bind awake_tells (Ev.now _)))
  cases b with
  | false => exact Ev.neg Bool.false_ne_true hyes
  | true =>
    refine Ev.pos rfl (Ev.both (fun _ => hyes) (fun c1 => Ev.both (fun _ => hyes) (fun c2 => Ev.both (fun _ => hyes) (fun c3 => Ev.both (fun _ => hyes) (fun c4 => Ev.both (fun _ => hyes) (fun c5 => ?_))))))
    by_cases c6 : age < 300
    · rw [decide_eq_true c6]
      exact hyes
    · rw [decide_eq_false c6]
      obtain ⟨rfl, hf⟩ := h rfl
      have ha : 0 ≤ active ∧ active ≤ 1099511627776 := ⟨Int.not_lt.1 c1, Int.not_lt.1 c2⟩
      have d3 : now ≤ 4611686018427387904 := Int.not_lt.1 c3
      have d4 : 300 ≤ B := Int.not_lt.1 c4
      have d5 : 300 ≤ F := Int.not_lt.1 c5
      have d6 : 300 ≤ age := Int.not_lt.1 c6
      obtain ⟨x, hx, hlx⟩ := drop_tells (B := B) (F := F) (age := age) hf hB2 ha hn2 0
      obtain ⟨y, hy, hly⟩ := drop_tells (B := B - less) (F := F - less) (age := age - less) (now := now + later) hf (less_in hB2 hless) ha (later_in hn2.1 d3 hlater) 0
      have hxy := least_le hlx hly (okay_less d4 d5 d6 hless hlater.1)
      obtain ⟨m, rfl, hm, hok, _⟩ := hlx
      rw [List.length_map] at hm hok
      refine Ev.step (fun k => logbooklaw23_PolicyLess.j0.eq_2 _ _ _ _ _ _ _ _ _ _ _) (Ev.neg Bool.false_ne_true (Ev.bindc (a := (B, F, age)) rfl (Ev.bind hx (Ev.bindc (a := (B - less, F - less, age - less)) ?_ (Ev.bind (a := y) ?_ ?_)))))
      · rw [(wsmall (byte_in hless)).1, (wsmall (byte_in hless)).2, wless d4 hB2 hless, wless d5 hF2 hless, wuless d6 hA2 hless]
        rfl
      · rw [(wsmall hlater).2, wulater hn2.1 d3 hlater]
        exact hy
      · rw [mnmx hm]
        have h0 := l0_tells (B := B) (F := F) (age := age) l hf hB2 ha m y hm hxy (fun hlt => by
          have h3 := (hok hlt).2.1
          rcases h3 with h3 | h3
          · omega
          · exact h3) (l.length - m) m (by omega) (Nat.le_refl _)
        have e : active + sumB (((l.map conv).take m).drop m) = active := by
          rw [List.drop_of_length_le (by simp; omega)]
          simp [sumB]
        rw [e] at h0
        exact h0
end Go.Proofs.Ytpmaihlmccebhaa.PurePolicyLess
