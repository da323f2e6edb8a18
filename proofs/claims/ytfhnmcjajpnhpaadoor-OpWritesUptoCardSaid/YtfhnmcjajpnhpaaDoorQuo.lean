/- Words: what is written is read back, and what is read was written so; in plain Lean, over lists of bytes. -/
import Derived.Test.YtfhnmcjajpnhpaaDoorStr
import Derived.Test.YtfhnmcjajpnhpaaDoorEvs
namespace Go.Proofs.YtfhnmcjajpnhpaaDoor.Quo
open Go.RowKit Go.Proofs.YtfhnmcjajpnhpaaDoorW.PrintWords Go.Proofs.YtfhnmcjajpnhpaaDoor.Conv Go.Proofs.YtfhnmcjajpnhpaaDoor.Str Go.Proofs.YtfhnmcjajpnhpaaDoor.Evs
set_option linter.unusedVariables false
set_option linter.unusedSimpArgs false

theorem plain_tells {c : Int} (h : plainB c = true) : 32 < c ∧ c < 127 ∧ c ≠ 37 := by
  simp [plainB] at h
  omega
theorem hexV_digU {n : Int} (h : 0 ≤ n) (h2 : n < 16) : hexV (digU n) = (n, true) := by
  unfold digU hexV
  by_cases c : n < 10
  · rw [if_pos c, if_pos (by omega)]
    congr 1
    omega
  · rw [if_neg c, if_neg (by omega), if_pos (by omega)]
    congr 1
    omega
theorem digU_hexV {a : Int} (h : (hexV a).2 = true) : digU (hexV a).1 = a := by
  unfold hexV at h ⊢
  by_cases c : 48 ≤ a ∧ a ≤ 57
  · rw [if_pos c]
    unfold digU
    rw [if_pos (by show a - 48 < 10; omega)]
    show 48 + (a - 48) = a
    omega
  · rw [if_neg c] at h ⊢
    by_cases d : 65 ≤ a ∧ a ≤ 70
    · rw [if_pos d]
      unfold digU
      rw [if_neg (by show ¬ a - 55 < 10; omega)]
      show 55 + (a - 55) = a
      omega
    · rw [if_neg d] at h
      cases h
theorem readGo_enc {c : Int} (h : 0 ≤ c ∧ c ≤ 255) (r : List Int) : readGo (encB c ++ r) = (readGo r).map (c :: ·) := by
  cases hp : plainB c
  · rw [encB_no hp]
    have h1 := hexV_digU (n := c / 16) (by omega) (by omega)
    have h2 := hexV_digU (n := c % 16) (by omega) (by omega)
    have e : c / 16 * 16 + c % 16 = c := by omega
    show readGo (37 :: digU (c / 16) :: digU (c % 16) :: r) = _
    rw [readGo_yes (by rw [h1]) (by rw [h2]) (by rw [h1, h2]; show plainB (c / 16 * 16 + c % 16) = false; rw [e]; exact hp), h1, h2]
    show (readGo r).map ((c / 16 * 16 + c % 16) :: ·) = _
    rw [e]
  · rw [encB_yes hp]
    exact readGo_plain (plain_tells hp).2.2 hp
theorem readGo_flat : ∀ l : List Int, Bytes l → readGo (l.flatMap encB) = some l
  | [], _ => by rw [List.flatMap_nil, readGo]
  | c :: l, h => by
    rw [List.flatMap_cons, readGo_enc (h c (by simp)), readGo_flat l (fun x hx => h x (List.mem_cons_of_mem _ hx))]
    rfl
theorem encB_ne (c : Int) : encB c ≠ [] := by
  unfold encB
  split <;> simp
theorem flat_ne {l : List Int} (h : l ≠ []) : l.flatMap encB ≠ [] := by
  match l, h with
  | c :: l, _ =>
    rw [List.flatMap_cons]
    intro e
    exact encB_ne c (List.append_eq_nil_iff.1 e).1
theorem flat_ne37 (l : List Int) : l.flatMap encB ≠ [37] := by
  match l with
  | [] => simp
  | c :: l =>
    rw [List.flatMap_cons]
    intro e
    cases hp : plainB c
    · rw [encB_no hp] at e
      simp at e
    · rw [encB_yes hp] at e
      have := (plain_tells hp).2.2
      simp at e
      exact this e.1
theorem read_word (l : List Int) (h : Bytes l) : readL (wordL l) = (l, true) := by
  unfold wordL
  by_cases hl : l = []
  · rw [if_pos hl, hl]
    unfold readL
    rw [if_pos rfl]
  · rw [if_neg hl]
    unfold readL
    rw [if_neg (flat_ne37 l), readGo_flat l h]
    show (l, decide (l.flatMap encB ≠ [])) = (l, true)
    rw [decide_eq_true (flat_ne hl)]
theorem word_bytes {l : List Int} (h : Bytes l) : Bytes (wordL l) := by
  unfold wordL
  split
  · intro x hx
    rw [List.mem_singleton.1 hx]
    omega
  · intro x hx
    obtain ⟨c, hc, hx⟩ := List.mem_flatMap.1 hx
    exact encB_in (h c hc) x hx
theorem word_len (l : List Int) : (wordL l).length ≤ 3 * l.length + 1 := by
  unfold wordL
  split
  · simp
  · have := flatMap_len l
    omega
/-- A loose reading: pairs of signs behind a percent sign, whatever they are. -/
def looseL : List Int → List Int
  | [] => []
  | c :: r =>
    if c = 37 then
      match r with
      | a :: b :: r' => ((hexV a).1 * 16 + (hexV b).1) :: looseL r'
      | [a] => looseL [a]
      | [] => []
    else c :: looseL r
theorem loose_plain {c : Int} {r : List Int} (h : c ≠ 37) : looseL (c :: r) = c :: looseL r := by
  rw [looseL.eq_def]
  simp only [if_neg h]
theorem loose_pair {a b : Int} {r : List Int} : looseL (37 :: a :: b :: r) = ((hexV a).1 * 16 + (hexV b).1) :: looseL r := by
  rw [looseL.eq_def]
  simp only [if_true]
theorem loose_short {r : List Int} (h : r.length < 2) : looseL (37 :: r) = looseL r := by
  match r, h with
  | [], _ => rfl
  | [_], _ => rfl
theorem readGo_tells : ∀ (n : Nat) (l x : List Int), l.length ≤ n → readGo l = some x → x.flatMap encB = l ∧ looseL l = x
  | _, [], x, _, h => by
    rw [readGo] at h
    rw [← Option.some.inj h]
    exact ⟨rfl, rfl⟩
  | 0, c :: r, x, hn, h => by simp at hn
  | n + 1, c :: r, x, hn, h => by
    by_cases hc : c = 37
    · subst hc
      match r, h, hn with
      | [], h, _ => rw [readGo_short (by simp)] at h; cases h
      | [a], h, _ => rw [readGo_short (by simp)] at h; cases h
      | a :: b :: r', h, hn =>
        by_cases g : (hexV a).2 = true ∧ (hexV b).2 = true ∧ plainB ((hexV a).1 * 16 + (hexV b).1) = false
        · rw [readGo_yes g.1 g.2.1 g.2.2] at h
          obtain ⟨y, hy, rfl⟩ := Option.map_eq_some_iff.1 h
          obtain ⟨i1, i2⟩ := readGo_tells n r' y (by simp at hn; omega) hy
          have ha := hexV_in a
          have hb := hexV_in b
          rw [List.flatMap_cons, i1, loose_pair, i2, encB_no g.2.2]
          refine ⟨?_, rfl⟩
          rw [show ((hexV a).1 * 16 + (hexV b).1) / 16 = (hexV a).1 by omega, show ((hexV a).1 * 16 + (hexV b).1) % 16 = (hexV b).1 by omega, digU_hexV g.1, digU_hexV g.2.1]
          rfl
        · rw [readGo_no g] at h
          cases h
    · cases hp : plainB c
      · rw [readGo_bad hc hp] at h
        cases h
      · rw [readGo_plain hc hp] at h
        obtain ⟨y, hy, rfl⟩ := Option.map_eq_some_iff.1 h
        obtain ⟨i1, i2⟩ := readGo_tells n r y (by simp at hn; omega) hy
        rw [List.flatMap_cons, i1, loose_plain hc, i2, encB_yes hp]
        exact ⟨rfl, rfl⟩
theorem loose_bytes : ∀ (n : Nat) (l : List Int), l.length ≤ n → Bytes l → Bytes (looseL l)
  | _, [], _, _ => fun x hx => by simp [looseL] at hx
  | 0, c :: r, hn, h => by simp at hn
  | n + 1, c :: r, hn, h => by
    have hr : Bytes r := fun x hx => h x (List.mem_cons_of_mem _ hx)
    by_cases hc : c = 37
    · subst hc
      by_cases h2 : r.length < 2
      · rw [loose_short h2]
        exact loose_bytes n r (by simp at hn; omega) hr
      · match r, h2, hn, hr with
        | [], h2, _, _ => exact absurd (by simp) h2
        | [_], h2, _, _ => exact absurd (by simp) h2
        | a :: b :: r', _, hn, hr =>
          rw [loose_pair]
          have ha := hexV_in a
          have hb := hexV_in b
          intro x hx
          rcases List.mem_cons.1 hx with rfl | hx
          · omega
          · exact loose_bytes n r' (by simp at hn; omega) (fun x hx => hr x (by simp [hx])) x hx
    · rw [loose_plain hc]
      intro x hx
      rcases List.mem_cons.1 hx with rfl | hx
      · exact h _ (by simp)
      · exact loose_bytes n r (by simp at hn; omega) hr x hx
theorem loose_len : ∀ (n : Nat) (l : List Int), l.length ≤ n → (looseL l).length ≤ l.length
  | _, [], _ => by simp [looseL]
  | 0, c :: r, hn => by simp at hn
  | n + 1, c :: r, hn => by
    by_cases hc : c = 37
    · subst hc
      by_cases h2 : r.length < 2
      · rw [loose_short h2]
        have := loose_len n r (by simp at hn; omega)
        simp
        omega
      · match r, h2, hn with
        | [], h2, _ => exact absurd (by simp) h2
        | [_], h2, _ => exact absurd (by simp) h2
        | a :: b :: r', _, hn =>
          rw [loose_pair]
          have := loose_len n r' (by simp at hn; omega)
          simp
          omega
    · rw [loose_plain hc]
      have := loose_len n r (by simp at hn; omega)
      simp
      omega
/-- What is read is what a loose reading reads, if that is written so. -/
theorem read_tells (l : List Int) (h : Bytes l) : readL l = if wordL (looseL l) = l then (looseL l, true) else ([], false) := by
  by_cases e : wordL (looseL l) = l
  · rw [if_pos e]
    have := read_word (looseL l) (loose_bytes _ l (Nat.le_refl _) h)
    rwa [e] at this
  · rw [if_neg e]
    unfold readL
    by_cases h37 : l = [37]
    · subst h37
      exact absurd rfl e
    · rw [if_neg h37]
      cases hg : readGo l with
      | none => rfl
      | some x =>
        obtain ⟨i1, i2⟩ := readGo_tells _ l x (Nat.le_refl _) hg
        by_cases hl : l = []
        · subst hl
          rw [readGo] at hg
          rw [← Option.some.inj hg]
          rfl
        · refine absurd ?_ e
          rw [i2]
          unfold wordL
          rw [if_neg, i1]
          rintro rfl
          exact hl i1.symm
end Go.Proofs.YtfhnmcjajpnhpaaDoor.Quo
