/- Numbers in sixteen digits, with and without noughts ahead, as lists of bytes; in plain Lean. -/
import Derived.Test.YtbbegchdlkmebaaDoorStr
import Derived.Test.YtbbegchdlkmebaaDoorEvs
namespace Go.Proofs.YtbbegchdlkmebaaDoor.Hex
open Go.RowKit Go.Proofs.YtbbegchdlkmebaaDoorW.PrintWords Go.Proofs.YtbbegchdlkmebaaDoor.Str Go.Proofs.YtbbegchdlkmebaaDoor.Conv
set_option linter.unusedVariables false
set_option linter.unusedSimpArgs false

def hexF : Nat → Int → List Int
  | 0, _ => []
  | d + 1, n => hexF d (n / 16) ++ [digX (n % 16)]
theorem hexF_len : ∀ d n, (hexF d n).length = d
  | 0, _ => rfl
  | d + 1, n => by rw [hexF, List.length_append, hexF_len d (n / 16)]; rfl
theorem div_pow (n : Int) (i : Nat) : n / 16 / 16 ^ i = n / 16 ^ (i + 1) := by
  rw [Int.ediv_ediv_of_nonneg (by decide), Int.pow_succ, Int.mul_comm]
theorem hexF_range : ∀ d n, hexF d n = (List.range d).map (fun j => digX (n / 16 ^ (d - 1 - j) % 16))
  | 0, _ => rfl
  | d + 1, n => by
    rw [hexF, hexF_range d (n / 16), List.range_succ, List.map_append]
    congr 1
    · refine List.map_congr_left fun j hj => ?_
      have hj := List.mem_range.1 hj
      rw [div_pow, show d - 1 - j + 1 = d + 1 - 1 - j by omega]
    · show _ = [digX (n / 16 ^ (d + 1 - 1 - d) % 16)]
      rw [show d + 1 - 1 - d = 0 by omega, Int.pow_zero, Int.ediv_one]
theorem hexL_F (n : Int) : hexL n = hexF 16 n := by
  rw [hexF_range]
  rfl
def hv (c : Int) : Int := if c ≤ 57 then c - 48 else c - 87
def isX (c : Int) : Bool := decide (48 ≤ c ∧ c ≤ 57) || decide (97 ≤ c ∧ c ≤ 102)
theorem isX_iff {c : Int} : isX c = true ↔ (48 ≤ c ∧ c ≤ 57) ∨ (97 ≤ c ∧ c ≤ 102) := by simp [isX]
theorem hv_digX {n : Int} (h : 0 ≤ n) (h2 : n < 16) : hv (digX n) = n := by
  unfold hv digX
  split <;> split <;> omega
theorem digX_hv {c : Int} (h : isX c = true) : digX (hv c) = c := by
  rw [isX_iff] at h
  unfold hv digX
  split <;> split <;> omega
theorem hv_in {c : Int} (h : isX c = true) : 0 ≤ hv c ∧ hv c < 16 := by
  rw [isX_iff] at h
  unfold hv
  split <;> omega
theorem isX_digX {n : Int} (h : 0 ≤ n) (h2 : n < 16) : isX (digX n) = true := by
  rw [isX_iff]
  unfold digX
  split <;> omega
theorem hexF_isX : ∀ d n, ∀ x ∈ hexF d n, isX x = true
  | 0, _, x, hx => by cases hx
  | d + 1, n, x, hx => by
    rw [hexF] at hx
    rcases List.mem_append.1 hx with hx | hx
    · exact hexF_isX d _ x hx
    · rw [List.mem_singleton.1 hx]
      exact isX_digX (Int.emod_nonneg _ (by decide)) (Int.emod_lt_of_pos _ (by decide))
def vx (a : Int) (l : List Int) : Int := l.foldl (fun a c => 16 * a + hv c) a
theorem vx_snoc (a : Int) (l : List Int) (c : Int) : vx a (l ++ [c]) = 16 * vx a l + hv c := by simp [vx]
theorem vx_hexF : ∀ (d : Nat) (n : Int), 0 ≤ n → n < 16 ^ d → vx 0 (hexF d n) = n
  | 0, n, h0, hn => by
    simp at hn
    have : n = 0 := by omega
    subst this
    rfl
  | d + 1, n, h0, hn => by
    rw [Int.pow_succ] at hn
    rw [hexF, vx_snoc, vx_hexF d (n / 16) (by omega) (by omega), hv_digX (by omega) (by omega)]
    omega
theorem hexF_vx : ∀ (d : Nat) (l : List Int), l.length = d → (∀ x ∈ l, isX x = true) → hexF d (vx 0 l) = l ∧ 0 ≤ vx 0 l ∧ vx 0 l < 16 ^ d
  | 0, l, hl, _ => by
    obtain rfl := List.eq_nil_of_length_eq_zero hl
    exact ⟨rfl, by decide, by decide⟩
  | d + 1, l, hl, hx => by
    rcases List.eq_nil_or_concat l with rfl | ⟨r, c, rfl⟩
    · simp at hl
    rw [List.concat_eq_append] at *
    have hc := hv_in (hx c (by simp))
    obtain ⟨h1, h2, h3⟩ := hexF_vx d r (by simpa using hl) (fun x hxr => hx x (by simp [hxr]))
    rw [vx_snoc, hexF, show (16 * vx 0 r + hv c) / 16 = vx 0 r by omega, show (16 * vx 0 r + hv c) % 16 = hv c by omega, h1, digX_hv (hx c (by simp)), Int.pow_succ]
    exact ⟨rfl, by omega, by omega⟩
theorem p16 : (16 : Int) ^ 16 = 18446744073709551616 := by decide
theorem vx_hexL (n : Int) (h0 : 0 ≤ n) (h1 : n ≤ 18446744073709551615) : vx 0 (hexL n) = n := by
  rw [hexL_F]
  exact vx_hexF 16 n h0 (by rw [p16]; omega)
theorem hexL_vx (l : List Int) (hl : l.length = 16) (hx : ∀ x ∈ l, isX x = true) : hexL (vx 0 l) = l ∧ 0 ≤ vx 0 l ∧ vx 0 l ≤ 18446744073709551615 := by
  obtain ⟨h1, h2, h3⟩ := hexF_vx 16 l hl hx
  rw [p16] at h3
  rw [hexL_F]
  exact ⟨h1, h2, by omega⟩
theorem hexL_len (n : Int) : (hexL n).length = 16 := by rw [hexL_F, hexF_len]
theorem hexL_isX (n : Int) : ∀ x ∈ hexL n, isX x = true := by
  rw [hexL_F]
  exact hexF_isX 16 n
theorem isX_byte {l : List Int} (h : ∀ x ∈ l, isX x = true) : Bytes l := fun x hx => by
  have := isX_iff.1 (h x hx)
  omega
/-! ### without noughts ahead -/
def trim0 (l : List Int) : List Int := l.dropWhile (· == 48)
theorem vx_zero (l : List Int) : vx 0 (48 :: l) = vx 0 l := rfl
theorem vx_trim : ∀ l : List Int, vx 0 (trim0 l) = vx 0 l
  | [] => rfl
  | c :: l => by
    unfold trim0
    by_cases h : c = 48
    · subst h
      rw [List.dropWhile_cons_of_pos (by simp), vx_zero]
      exact vx_trim l
    · rw [List.dropWhile_cons_of_neg (by simpa using h)]
theorem trim_mem {l : List Int} {x : Int} (h : x ∈ trim0 l) : x ∈ l := (List.dropWhile_sublist _).subset h
theorem trim_len (l : List Int) : (trim0 l).length ≤ l.length := (List.dropWhile_sublist _).length_le
def hexS (n : Int) : List Int := if trim0 (hexL n) = [] then [48] else trim0 (hexL n)
theorem hexS_isX (n : Int) : ∀ x ∈ hexS n, isX x = true := by
  unfold hexS
  split
  · intro x hx
    rw [List.mem_singleton.1 hx]
    rfl
  · exact fun x hx => hexL_isX n x (trim_mem hx)
theorem hexS_len (n : Int) : (hexS n).length ≤ 16 := by
  unfold hexS
  split
  · simp
  · have := trim_len (hexL n)
    rw [hexL_len] at this
    exact this
theorem vx_hexS (n : Int) (h0 : 0 ≤ n) (h1 : n ≤ 18446744073709551615) : vx 0 (hexS n) = n := by
  have h := vx_trim (hexL n)
  rw [vx_hexL n h0 h1] at h
  unfold hexS
  split
  · rename_i e
    rw [e] at h
    rw [← h]
    rfl
  · exact h
/-! ### a cursor's text -/
theorem app_inj {c : Int} : ∀ {A A' B B' : List Int}, c ∉ A → c ∉ A' → A ++ c :: B = A' ++ c :: B' → A = A' ∧ B = B'
  | [], [], B, B', _, _, h => ⟨rfl, by simpa using h⟩
  | [], a :: A', B, B', _, h2, h => by
    injection h with h _
    exact absurd (by simp [h]) h2
  | a :: A, [], B, B', h1, _, h => by
    injection h with h _
    exact absurd (by simp [h]) h1
  | a :: A, a' :: A', B, B', h1, h2, h => by
    injection h with h3 h4
    obtain ⟨h5, h6⟩ := app_inj (fun x => h1 (List.mem_cons_of_mem _ x)) (fun x => h2 (List.mem_cons_of_mem _ x)) h4
    exact ⟨by rw [h3, h5], h6⟩
def pieceK (key : Int) (l : List Int) : List Int := key :: 61 :: l
def textL (a b c d e f : Int) : List Int :=
  pieceK 115 (hexL a) ++ 59 :: (pieceK 105 (hexS b) ++ 59 :: (pieceK 98 (hexL c) ++ 59 :: (pieceK 109 (hexS d) ++ 59 :: (pieceK 116 (hexS e) ++ 59 :: pieceK 120 (hexS f)))))
theorem no59 {key : Int} {l : List Int} (hk : key ≠ 59) (h : ∀ x ∈ l, isX x = true) : (59 : Int) ∉ pieceK key l := by
  unfold pieceK
  intro hm
  rcases List.mem_cons.1 hm with e | hm
  · exact hk e.symm
  rcases List.mem_cons.1 hm with e | hm
  · exact absurd e (by decide)
  · exact absurd (h _ hm) (by decide)
def U64 (n : Int) : Prop := 0 ≤ n ∧ n ≤ 18446744073709551615
theorem hexL_inj {n m : Int} (hn : U64 n) (hm : U64 m) (h : hexL n = hexL m) : n = m := by
  rw [← vx_hexL n hn.1 hn.2, ← vx_hexL m hm.1 hm.2, h]
theorem hexS_inj {n m : Int} (hn : U64 n) (hm : U64 m) (h : hexS n = hexS m) : n = m := by
  rw [← vx_hexS n hn.1 hn.2, ← vx_hexS m hm.1 hm.2, h]
theorem pieceK_bytes {key : Int} {l : List Int} (hk : 0 ≤ key ∧ key ≤ 255) (h : ∀ x ∈ l, isX x = true) : Bytes (pieceK key l) := by
  intro x hx
  unfold pieceK at hx
  rcases List.mem_cons.1 hx with rfl | hx
  · exact hk
  rcases List.mem_cons.1 hx with rfl | hx
  · omega
  · exact isX_byte h x hx
theorem bytes_app {a b : List Int} (ha : Bytes a) (hb : Bytes b) : Bytes (a ++ 59 :: b) := by
  intro x hx
  rcases List.mem_append.1 hx with hx | hx
  · exact ha x hx
  rcases List.mem_cons.1 hx with rfl | hx
  · omega
  · exact hb x hx
theorem textL_bytes (a b c d e f : Int) : Bytes (textL a b c d e f) := by
  unfold textL
  exact bytes_app (pieceK_bytes (by decide) (hexL_isX _)) (bytes_app (pieceK_bytes (by decide) (hexS_isX _)) (bytes_app (pieceK_bytes (by decide) (hexL_isX _)) (bytes_app (pieceK_bytes (by decide) (hexS_isX _)) (bytes_app (pieceK_bytes (by decide) (hexS_isX _)) (pieceK_bytes (by decide) (hexS_isX _))))))
theorem textL_len (a b c d e f : Int) : (textL a b c d e f).length ≤ 113 := by
  have h1 := hexL_len a
  have h2 := hexS_len b
  have h3 := hexL_len c
  have h4 := hexS_len d
  have h5 := hexS_len e
  have h6 := hexS_len f
  unfold textL pieceK
  simp only [List.length_append, List.length_cons]
  omega
end Go.Proofs.YtbbegchdlkmebaaDoor.Hex
