/- ExportNumbers: how numbers are written and read, by the program and by the reference; in plain Lean. -/
import Derived.Test.YtbbegchdlkmebaaPExportNumbersx2
import Derived.Test.YtbbegchdlkmebaaDec
namespace Go.Proofs.Ytbbegchdlkmebaa.Pure
open Go.RowKit Go.Proofs.Ytbbegchdlkmebaa.PExportNumbers Go.Proofs.YtbbegchdlkmebaaW.PrintWords Go.Proofs.YtbbegchdlkmebaaW.PrintLast Go.Proofs.Ytbbegchdlkmebaa.Evs Go.Proofs.Ytbbegchdlkmebaa.Str Go.Proofs.Ytbbegchdlkmebaa.Dec Go.Proofs.Ytbbegchdlkmebaa.Conv
set_option linter.unusedVariables false
set_option linter.unusedSimpArgs false

theorem w8 {n : Int} (h0 : 0 ≤ n) (h : n < 10) : IntKind.u64.wrap (48 + n) % 256 = 48 + n := by
  rw [wu64 (by omega) (by omega)]
  omega
theorem div10 {n : Int} (h0 : 0 ≤ n) (h1 : n ≤ 18446744073709551615) : IntKind.u64.wrap (Int.tdiv n 10) = n / 10 := by
  rw [Int.tdiv_eq_ediv_of_nonneg h0, wu64 (by omega) (by omega)]
theorem mod10 {n : Int} (h0 : 0 ≤ n) : IntKind.u64.wrap (48 + Int.tmod n 10) % 256 = 48 + n % 10 := by
  rw [Int.tmod_eq_emod_of_nonneg h0]
  exact w8 (by omega) (by omega)
theorem small_div {n m : Int} (h0 : 0 ≤ n) (h1 : n ≤ m) : 0 ≤ n / 10 ∧ n / 10 ≤ m := by omega
theorem dec_tells : ∀ (d : Nat) (n : Int), d ≤ 20 → 0 ≤ n → n ≤ 18446744073709551615 → n < 10 ^ (d + 1) → Ev (fun k => export_Decimal.f k n) (strOfNums (decF (d + 1) n))
  | d, n, hd, h0, h1, hn => by
    refine Ev.step (fun k => export_Decimal.f.eq_2 _ _) ?_
    by_cases h : n < 10
    · refine Ev.pos h ?_
      rw [w8 h0 h, decF_small h]
      exact Ev.now _
    · refine Ev.neg h ?_
      rw [decF_big h, div10 h0 h1, mod10 h0]
      match d, hn with
      | 0, hn =>
        simp at hn
        exact absurd hn h
      | d + 1, hn =>
        have hs := small_div h0 h1
        refine Ev.bind (dec_tells d (n / 10) (by omega) hs.1 hs.2 (pow_lt hn)) (Ev.bindc rfl (Ev.pos ?_ ?_))
        · rw [size_str, size_str]
          have := decF_len (d + 1) (n / 10)
          simp
          omega
        · rw [str_append]
          exact Ev.now _
theorem lt20 {n : Int} (h1 : n ≤ 18446744073709551615) : n < 10 ^ (19 + 1) := by
  have : (10 : Int) ^ (19 + 1) = 100000000000000000000 := by decide
  omega
def dec (n : Int) : List Int := decF 20 n
theorem decimal_tells (n : Int) (h0 : 0 ≤ n) (h1 : n ≤ 18446744073709551615) : Ev (fun k => export_Decimal.f k n) (strOfNums (dec n)) := dec_tells 19 n (by omega) h0 h1 (lt20 h1)

/-- The reference's: digits are put ahead. -/
theorem ref_go : ∀ (d : Nat) (n : Int) (acc : List Int), d ≤ 20 → acc.length + d ≤ 40 → 0 ≤ n → n ≤ 18446744073709551615 → n < 10 ^ d → acc ≠ [] → Bytes acc →
    Ev (fun k => logbookref32_Decimal.l0 k n (strOfNums acc)) (strOfNums ((if n = 0 then [] else decF d n) ++ acc))
  | d, n, acc, hd, hl, h0, h1, hn, hne, hb => by
    by_cases hz : n = 0
    · subst hz
      refine Ev.step (fun k => logbookref32_Decimal.l0.eq_2 _ _ _) (Ev.neg (by omega) (Ev.neg ?_ ?_))
      · intro e
        have := toList_eq_nil.1 e
        rw [size_str] at this
        exact hne (List.eq_nil_of_length_eq_zero this)
      · rw [if_pos rfl]
        exact Ev.now _
    · rw [if_neg hz]
      match d, hn with
      | 0, hn =>
        simp at hn
        omega
      | d + 1, hn =>
        have hs := small_div h0 h1
        refine Ev.step (fun k => logbookref32_Decimal.l0.eq_2 _ _ _) (Ev.pos (by omega) (Ev.bindc rfl (Ev.pos ?_ ?_)))
        · rw [size_str, size_str]
          simp
          omega
        · rw [mod10 h0, div10 h0 h1, str_append]
          have ih := ref_go d (n / 10) ((48 + n % 10) :: acc) (by omega) (by simp; omega) hs.1 hs.2 (pow_lt hn) (by simp) (by
            intro x hx
            rcases List.mem_cons.1 hx with rfl | hx
            · omega
            · exact hb x hx)
          refine Ev.eq ih ?_
          congr 1
          by_cases h : n < 10
          · rw [if_pos (by omega), decF_small h, show n % 10 = n by omega]
            rfl
          · rw [if_neg (by omega), decF_big h, List.append_assoc]
            rfl
theorem ref_decimal (n : Int) (h0 : 0 ≤ n) (h1 : n ≤ 18446744073709551615) : Ev (fun k => logbookref32_Decimal.f k n) (strOfNums (dec n)) := by
  have hs := small_div h0 h1
  have hq : n / 10 < 10 ^ 19 := pow_lt (lt20 h1)
  have ih := ref_go 19 (n / 10) [48 + n % 10] (by omega) (by simp) hs.1 hs.2 hq (by simp) (by
    intro x hx
    rw [List.mem_singleton.1 hx]
    omega)
  have hf : ∀ k, logbookref32_Decimal.f k n = logbookref32_Decimal.l0 k n (⟨#[]⟩ : ByteArray) := fun _ => rfl
  refine Ev.congr hf ?_
  have e : (if n / 10 = 0 then [] else decF 19 (n / 10)) ++ [48 + n % 10] = dec n := by
    by_cases h : n < 10
    · rw [if_pos (by omega)]
      show _ = decF 20 n
      rw [decF_small h, show n % 10 = n by omega]
      rfl
    · rw [if_neg (by omega)]
      exact (decF_big h).symm
  rw [e] at ih
  have e2 : strOfNums [48 + n % 10] ++ (⟨#[]⟩ : ByteArray) = strOfNums [48 + n % 10] := by
    apply bytesOf_inj
    rw [bytesOf_append, bytesOf_empty, List.append_nil]
  have e3 : (strOfNums [48 + n % 10]).size + (⟨#[]⟩ : ByteArray).size ≤ 9223372036854775807 := by
    rw [size_str]
    show (1 : Nat) + 0 ≤ 9223372036854775807
    decide
  by_cases hz : n > 0
  · refine Ev.step (fun k => logbookref32_Decimal.l0.eq_2 _ _ _) (Ev.pos hz (Ev.bindc rfl (Ev.pos ?_ ?_)))
    · rw [mod10 h0]
      exact e3
    · rw [mod10 h0, div10 h0 h1, e2]
      exact ih
  · refine Ev.step (fun k => logbookref32_Decimal.l0.eq_2 _ _ _) (Ev.neg hz (Ev.pos (toList_nil rfl) (Ev.bindc rfl (Ev.pos ?_ ?_))))
    · rw [mod10 h0]
      exact e3
    · rw [mod10 h0, div10 h0 h1, e2]
      exact ih

/-! ### what is read -/
theorem numGo_append : ∀ (l r : List Int) (a : Int), numGo (l ++ r) a = (numGo l a).bind fun b => numGo r b
  | [], r, a => rfl
  | c :: l, r, a => by
    simp only [List.cons_append, numGo]
    split
    · rfl
    · split
      · rfl
      · exact numGo_append l r _
theorem numGo_dec : ∀ (d : Nat) (n : Int), 0 ≤ n → n ≤ 18446744073709551615 → n < 10 ^ (d + 1) → numGo (decF (d + 1) n) 0 = some n
  | d, n, h0, h1, hn => by
    by_cases h : n < 10
    · rw [decF_small h, numGo_go (by omega) (by omega) (by omega)]
      simp only [numGo]
      congr 1
      omega
    · match d, hn with
      | 0, hn =>
        simp at hn
        exact absurd hn h
      | d + 1, hn =>
        have hs := small_div h0 h1
        rw [decF_big h, numGo_append, numGo_dec d (n / 10) hs.1 hs.2 (pow_lt hn)]
        show numGo [48 + n % 10] (n / 10) = some n
        rw [numGo_go (by omega) (by omega) (by omega)]
        simp only [numGo]
        congr 1
        omega
theorem numGo_tells : ∀ (l : List Int) (a b : Int), numGo l a = some b → 0 ≤ a → a ≤ 18446744073709551615 → Digits l ∧ b = valF a l ∧ 0 ≤ b ∧ b ≤ 18446744073709551615
  | [], a, b, h, h0, h1 => by
    injection h with h
    subst h
    exact ⟨fun x hx => absurd hx (by simp), rfl, h0, h1⟩
  | c :: l, a, b, h, h0, h1 => by
    simp only [numGo] at h
    split at h
    · cases h
    · split at h
      · cases h
      · rename_i g1 g2
        obtain ⟨p, q, r, s⟩ := numGo_tells l _ b h (by omega) (by omega)
        refine ⟨fun x hx => ?_, q, r, s⟩
        rcases List.mem_cons.1 hx with rfl | hx
        · omega
        · exact p x hx
theorem dec_of_numGo {l : List Int} {b : Int} (h : numGo l 0 = some b) (hne : l ≠ []) (hl : l.length ≤ 20) (hz : ∀ c r, l = c :: r → c = 48 → r = []) : dec b = l := by
  obtain ⟨h1, h2, _, _⟩ := numGo_tells l 0 b h (by omega) (by omega)
  rw [h2]
  exact dec_valF 20 l hl hne h1 hz
theorem dec_facts (n : Int) (h0 : 0 ≤ n) (h1 : n ≤ 18446744073709551615) : dec n ≠ [] ∧ (dec n).length ≤ 20 ∧ (∀ c r, dec n = c :: r → c = 48 → r = []) ∧ Bytes (dec n) := by
  refine ⟨decF_ne 19 n, decF_len 20 n, fun c r e hc => ?_, decF_Bytes 20 n h0⟩
  by_cases hz : n < 1
  · have : dec n = [48 + n] := decF_small (by omega)
    rw [this] at e
    injection e with _ e
    exact e.symm
  · obtain ⟨c', r', e', hc'⟩ := decF_head 20 n (by omega) (lt20 h1)
    have e2 : c' :: r' = c :: r := e'.symm.trans e
    injection e2 with e3 _
    exact absurd (e3.trans hc) hc'
/-- What the program reads. -/
theorem number_yes (n : Int) (h0 : 0 ≤ n) (h1 : n ≤ 18446744073709551615) : export_Number.f (strOfNums (dec n)) = some (n, true) := by
  obtain ⟨f1, f2, f3, f4⟩ := dec_facts n h0 h1
  unfold export_Number.f
  have hs := size_str (dec n)
  rw [if_neg (by rw [hs]; exact fun e => f1 (List.eq_nil_of_length_eq_zero e)), if_neg (by rw [hs]; omega), if_neg, bytes_str f4]
  · rw [show numGo (dec n) 0 = some n from numGo_dec 19 n h0 h1 (lt20 h1)]
  · rintro ⟨e1, e2⟩
    rw [hs] at e2
    have e3 : bt (strOfNums (dec n)) ((0 : Nat) : Int) = (dec n).getD 0 0 := by rw [bt_get, bytes_str f4]
    match hh : dec n, f1 with
    | c :: r, _ =>
      rw [hh] at e2 e3
      have := f3 c r hh (by
        rw [← hh] at e3
        rw [hh] at e3
        have e4 : bt (strOfNums (c :: r)) 0 = c := by simpa [hh] using e3
        rw [hh] at e1
        rw [← e1]
        exact e4.symm)
      rw [this] at e2
      simp at e2
theorem number_no (s : ByteArray) (h : ∀ n, 0 ≤ n → n ≤ 18446744073709551615 → dec n ≠ bytesOf s) : export_Number.f s = some (0, false) := by
  unfold export_Number.f
  split
  · rfl
  · rename_i g1
    split
    · rfl
    · rename_i g2
      split
      · rfl
      · rename_i g3
        cases hh : numGo (bytesOf s) 0 with
        | none => rfl
        | some b =>
          obtain ⟨_, _, b0, b1⟩ := numGo_tells _ 0 b hh (by omega) (by omega)
          refine absurd (dec_of_numGo hh (bytesOf_cons_size g1) (by rw [bytesOf_length]; omega) (fun c r e hc => ?_)) (h b b0 b1)
          have e1 : bt s ((0 : Nat) : Int) = c := by rw [bt_get, e]; rfl
          match r, e with
          | [], _ => rfl
          | x :: r, e =>
            refine absurd ⟨?_, ?_⟩ g3
            · exact e1.trans hc
            · rw [← bytesOf_length, e]
              simp
/-! ### what the reference reads -/
def valW (a : Int) (l : List Int) : Int := l.foldl (fun a c => (10 * a + (c - 48)) % 18446744073709551616) a
theorem valW_val (a : Int) (l : List Int) : valW a l % 18446744073709551616 = valF a l % 18446744073709551616 := by
  induction l generalizing a with
  | nil => rfl
  | cons c l ih =>
    show valW ((10 * a + (c - 48)) % 18446744073709551616) l % _ = valF (10 * a + (c - 48)) l % _
    have key : ∀ (l : List Int) (x y : Int), x % 18446744073709551616 = y % 18446744073709551616 → valF x l % 18446744073709551616 = valF y l % 18446744073709551616 := by
      intro l
      induction l with
      | nil => intro x y h; exact h
      | cons c l ih =>
        intro x y h
        show valF (10 * x + (c - 48)) l % _ = valF (10 * y + (c - 48)) l % _
        exact ih _ _ (by omega)
    rw [ih]
    exact key l _ _ (by omega)
theorem valW_in (a : Int) (l : List Int) (h : 0 ≤ a ∧ a ≤ 18446744073709551615) : 0 ≤ valW a l ∧ valW a l ≤ 18446744073709551615 := by
  induction l generalizing a with
  | nil => exact h
  | cons c l ih =>
    have h2 : 0 ≤ (10 * a + (c - 48)) % 18446744073709551616 ∧ (10 * a + (c - 48)) % 18446744073709551616 ≤ 18446744073709551615 := by omega
    exact ih _ h2
theorem wstep {a c : Int} (h : 0 ≤ a ∧ a ≤ 18446744073709551615) (hc : 0 ≤ c ∧ c ≤ 255) : IntKind.u64.wrap (IntKind.u64.wrap (IntKind.u64.wrap (a * 10) + IntKind.u64.wrap c) - 48) = (10 * a + (c - 48)) % 18446744073709551616 := by
  show ((a * 10 % 18446744073709551616 + c % 18446744073709551616) % 18446744073709551616 - 48) % 18446744073709551616 = _
  omega
theorem wsucc64 {i n : Nat} (h : i < n) (hn : n ≤ 200) : wrap64 ((i : Int) + 1) = ((i + 1 : Nat) : Int) := by
  rw [w64 (by omega) (by omega)]
  omega
theorem lt_int {i n : Nat} (h : i < n) : (i : Int) < (n : Int) := by omega
theorem refnum_go (s : ByteArray) (hs : s.size ≤ 200) : ∀ (d i : Nat) (a : Int), d + i = min s.size 20 → 0 ≤ a → a ≤ 18446744073709551615 →
    Ev (fun k => logbookref32_Number.l0 k s a i) (if s.size > 20 then (0, false) else if dec (valW a ((bytesOf s).drop i)) = bytesOf s then (valW a ((bytesOf s).drop i), true) else (0, false))
  | 0, i, a, hd, h0, h1 => by
    have fin : s.size ≤ 20 → Ev (fun k => (logbookref32_Decimal.f k a).bind fun t131 => (if t131.toList = s.toList then (some (a, true)) else (some (0, false)))) (if s.size > 20 then (0, false) else if dec (valW a ((bytesOf s).drop i)) = bytesOf s then (valW a ((bytesOf s).drop i), true) else (0, false)) := by
      intro h20
      rw [if_neg (by omega), List.drop_of_length_le (by rw [bytesOf_length]; omega)]
      show Ev _ (if dec a = bytesOf s then (a, true) else (0, false))
      refine Ev.bind (ref_decimal a h0 h1) ?_
      have hb := (dec_facts a h0 h1).2.2.2
      by_cases e : dec a = bytesOf s
      · rw [if_pos e]
        exact Ev.pos (toList_iff.2 (by rw [bytes_str hb, e])) (Ev.now _)
      · rw [if_neg e]
        exact Ev.neg (fun e' => e (by rw [← toList_iff.1 e', bytes_str hb])) (Ev.now _)
    refine Ev.step (fun k => logbookref32_Number.l0.eq_2 _ _ _ _) ?_
    by_cases h20 : s.size > 20
    · have e20 : (s.size : Int) > 20 := by omega
      rw [if_pos h20]
      exact Ev.both (fun _ => Ev.neg (by omega) (Ev.pos e20 (Ev.now _))) (fun _ => Ev.pos e20 (Ev.now _))
    · have e20 : ¬ (s.size : Int) > 20 := by omega
      exact Ev.both (fun _ => Ev.neg (by omega) (Ev.neg e20 (fin (by omega)))) (fun _ => Ev.neg e20 (fin (by omega)))
  | d + 1, i, a, hd, h0, h1 => by
    have hi : i < s.size := by omega
    have c1 := lt_int hi
    have c2 : (i : Int) < 20 := by omega
    refine Ev.step (fun k => logbookref32_Number.l0.eq_2 _ _ _ _) (Ev.pos c1 (Ev.pos c2 (Ev.pos (by omega) ?_)))
    rw [wstep ⟨h0, h1⟩ (bt_range s i), wsucc64 hi hs, bt_drop s i hi]
    exact refnum_go s hs d (i + 1) _ (by omega) (by omega) (by omega)
theorem refnum_tells (s : ByteArray) (hs : s.size ≤ 200) : Ev (fun k => logbookref32_Number.f k s) (if s.size > 20 then (0, false) else if dec (valW 0 (bytesOf s)) = bytesOf s then (valW 0 (bytesOf s), true) else (0, false)) :=
  refnum_go s hs (min s.size 20) 0 0 (by omega) (by omega) (by omega)
theorem same_number (s : ByteArray) (hs : s.size ≤ 200) : ∃ n b, export_Number.f s = some (n, b) ∧ Ev (fun k => logbookref32_Number.f k s) (n, b) := by
  have hr := refnum_tells s hs
  by_cases hex : ∃ n, 0 ≤ n ∧ n ≤ 18446744073709551615 ∧ dec n = bytesOf s
  · obtain ⟨n, h0, h1, e⟩ := hex
    obtain ⟨f1, f2, f3, f4⟩ := dec_facts n h0 h1
    refine ⟨n, true, ?_, ?_⟩
    · rw [← str_bytes s, ← e]
      exact number_yes n h0 h1
    · have hv : valW 0 (bytesOf s) = n := by
        have h2 := valW_val 0 (bytesOf s)
        have h3 := valW_in 0 (bytesOf s) (by omega)
        rw [← e] at h2 h3 ⊢
        rw [show valF 0 (dec n) = n from valF_dec 20 n h0 (lt20 h1) (by omega)] at h2
        omega
      rw [if_neg (by rw [← bytesOf_length, ← e]; omega), hv, if_pos e] at hr
      exact hr
  · refine ⟨0, false, number_no s (fun n h0 h1 e => hex ⟨n, h0, h1, e⟩), ?_⟩
    have h3 := valW_in 0 (bytesOf s) (by omega)
    have hne : dec (valW 0 (bytesOf s)) ≠ bytesOf s := fun e => hex ⟨_, h3.1, h3.2, e⟩
    rw [if_neg hne] at hr
    have : (if s.size > 20 then ((0 : Int), false) else (0, false)) = (0, false) := by split <;> rfl
    rw [this] at hr
    exact hr
theorem awake_tells : Ev (fun k => logbooklaw32_awake.f k) true := by
  refine Ev.bindc (a := (⟨#[65, 61, 49, 10]⟩ : ByteArray)) (by decide +kernel) (Ev.pos (by decide +kernel) (Ev.bind (decimal_tells 120 (by omega) (by omega)) ?_))
  have : ((strOfNums (dec 120)).toList == ([49, 50, 48] : List UInt8)) = true := by decide +kernel
  rw [this]
  exact Ev.now _
theorem ExportNumbers : logbooklaw32_ExportNumbers.Pure := by
  intro n s hn hs
  have hn := wf_u64 hn
  refine Ev.at ?_
  refine Ev.both (fun _ => Ev.bind awake_tells (Ev.now _)) (fun h200 => ?_)
  obtain ⟨a, b, h1, h2⟩ := same_number s (by omega)
  have hd := decimal_tells n hn.1 hn.2
  refine Ev.bindc h1 (Ev.bind h2 (Ev.bind hd (Ev.bindc (number_yes n hn.1 hn.2) (Ev.bind hd (Ev.bind (ref_decimal n hn.1 hn.2) (Ev.pos rfl (Ev.pos rfl (Ev.pos (by simp) (Ev.pos rfl (Ev.pos rfl (Ev.bind awake_tells (Ev.now _))))))))))))
end Go.Proofs.Ytbbegchdlkmebaa.Pure
