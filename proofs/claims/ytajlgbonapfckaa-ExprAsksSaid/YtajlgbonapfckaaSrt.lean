/- Texts sorted, each once: to do so again changes nothing; in plain Lean. -/
import Derived.Test.YtajlgbonapfckaaStr
import Derived.Lib.SlicesCompact
import Derived.Lib.RowBridge
namespace Go.Proofs.Ytajlgbonapfckaa.Srt
open Go.Lib
set_option linter.unusedVariables false
set_option linter.unusedSimpArgs false
abbrev T := List UInt8
def le (x y : T) : Bool := decide (x ≤ y)
theorem le_tr : ∀ a b c : T, le a b = true → le b c = true → le a c = true := fun a b c h k => decide_eq_true (List.le_trans (of_decide_eq_true h) (of_decide_eq_true k))
theorem le_to : ∀ a b : T, (le a b || le b a) = true := fun a b => by
  rcases List.le_total a b with h | h
  · simp [le, h]
  · simp [le, h]
theorem sorted (l : List T) : (l.mergeSort le).Pairwise fun a b => a ≤ b := by
  have := List.pairwise_mergeSort (le := le) le_tr le_to l
  exact this.imp (fun h => of_decide_eq_true h)
theorem sort_again (l : List T) (h : l.Pairwise fun a b => a ≤ b) : l.mergeSort le = l :=
  List.mergeSort_of_pairwise (h.imp (fun h => decide_eq_true h))
theorem getE (d : List T) (j : Nat) (h : j < d.length) : d.toArray[j]! = d[j] := by
  simp [h]
theorem comp_sub (zs : List T) : (compact zs).Sublist zs := by
  have h1 : (((List.range zs.length).filter (keeps zs.toArray)).map (zs.toArray[·]!)).Sublist ((List.range zs.length).map (zs.toArray[·]!)) := List.Sublist.map _ List.filter_sublist
  have h2 := range_map_get zs.toArray
  have h3 : (List.range zs.length).map (zs.toArray[·]!) = zs := by simpa using h2
  rw [h3] at h1
  exact h1
theorem comp_strict (zs : List T) (h : zs.Pairwise fun a b => a ≤ b) : ∀ m, m ≤ zs.length → (compactUpTo zs.toArray m).Pairwise (fun a b => a ≤ b ∧ a ≠ b) ∧ ∀ x ∈ compactUpTo zs.toArray m, 0 < m ∧ x ≤ zs.toArray[m - 1]!
  | 0, _ => ⟨by simp [compactUpTo], fun x hx => by simp [compactUpTo] at hx⟩
  | m + 1, hm => by
    obtain ⟨h1, h2⟩ := comp_strict zs h m (by omega)
    have hstep : 0 < m → zs.toArray[m - 1]! ≤ zs.toArray[m]! := fun h0 => by
      rw [getE zs (m - 1) (by omega), getE zs m (by omega)]
      exact List.pairwise_iff_getElem.1 h (m - 1) m (by omega) (by omega) (by omega)
    rw [compactUpTo_succ]
    have ht : m + 1 - 1 = m := by omega
    rw [ht]
    cases hk : keeps zs.toArray m with
    | false =>
      simp only [Bool.false_eq_true, if_false, List.append_nil]
      exact ⟨h1, fun x hx => ⟨by omega, List.le_trans (h2 x hx).2 (hstep (h2 x hx).1)⟩⟩
    | true =>
      simp only [if_true]
      refine ⟨List.pairwise_append.2 ⟨h1, by simp, fun a ha b hb => ?_⟩, fun x hx => ?_⟩
      · rw [List.mem_singleton.1 hb]
        obtain ⟨h0, h3⟩ := h2 a ha
        refine ⟨List.le_trans h3 (hstep h0), fun e => ?_⟩
        have hne : zs.toArray[m]! ≠ zs.toArray[m - 1]! := by
          have := of_decide_eq_true hk
          rcases this with h' | h'
          · omega
          · exact h'
        apply hne
        have h4 : zs.toArray[m]! ≤ zs.toArray[m - 1]! := by rw [← e]; exact h3
        exact List.le_antisymm h4 (hstep h0)
      · rcases List.mem_append.1 hx with hx | hx
        · exact ⟨by omega, List.le_trans (h2 x hx).2 (hstep (h2 x hx).1)⟩
        · rw [List.mem_singleton.1 hx]
          exact ⟨by omega, List.le_refl _⟩
theorem comp_rises (zs : List T) (h : zs.Pairwise fun a b => a ≤ b) : (compact zs).Pairwise (fun a b => a ≤ b ∧ a ≠ b) := (comp_strict zs h zs.length (Nat.le_refl _)).1
theorem comp_again (zs : List T) (h : zs.Pairwise (fun a b => a ≤ b ∧ a ≠ b)) : compact zs = zs := by
  apply compact_all
  intro j hj
  rcases Nat.eq_zero_or_pos j with h0 | h0
  · subst h0
    simp [keeps]
  · apply keeps_pos
    rw [getE zs (j - 1) (by omega), getE zs j hj]
    intro e
    exact (List.pairwise_iff_getElem.1 h (j - 1) j (by omega) hj (by omega)).2 e.symm
theorem comp_ne {zs : List T} (h : zs ≠ []) : compact zs ≠ [] := by
  match zs, h with
  | x :: r, _ =>
    intro e
    unfold compact at e
    have h1 : ∀ m, compactUpTo (x :: r).toArray (m + 1) ≠ [] := fun m => by
      induction m with
      | zero => rw [compactUpTo_succ]; simp [keeps]
      | succ m ih => rw [compactUpTo_succ]; intro e; exact ih (List.append_eq_nil_iff.1 e).1
    exact h1 r.length e
end Go.Proofs.Ytajlgbonapfckaa.Srt
