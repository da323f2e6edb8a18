/- Lines cut at blanks, and the reading of the pieces; in plain Lean. -/
import Derived.Test.YtfhnmcjajpnhpaaDoorQuo
import Derived.Lib.Bytealg
namespace Go.Proofs.YtfhnmcjajpnhpaaDoor.Wds
open Go.RowKit Go.Proofs.YtfhnmcjajpnhpaaDoorW.PrintWords Go.Proofs.YtfhnmcjajpnhpaaDoor.Conv Go.Proofs.YtfhnmcjajpnhpaaDoor.Str Go.Proofs.YtfhnmcjajpnhpaaDoor.Evs Go.Proofs.YtfhnmcjajpnhpaaDoor.Quo
set_option linter.unusedVariables false
set_option linter.unusedSimpArgs false

def cut : List Int → List (List Int)
  | [] => [[]]
  | c :: r => if c = 32 then [] :: cut r else match cut r with
    | [] => [[c]]
    | p :: q => (c :: p) :: q
theorem cut_blank (r : List Int) : cut (32 :: r) = [] :: cut r := by
  rw [cut, if_pos rfl]
theorem cut_ne : ∀ l : List Int, cut l ≠ []
  | [] => by simp [cut]
  | c :: r => by
    rw [cut]
    split
    · simp
    · split <;> simp
theorem cut_other {c : Int} {r p : List Int} {q : List (List Int)} (h : c ≠ 32) (e : cut r = p :: q) : cut (c :: r) = (c :: p) :: q := by
  rw [cut, if_neg h, e]
def idxI : List Int → Int
  | [] => -1
  | b :: l => if b = 32 then 0 else if idxI l = -1 then -1 else idxI l + 1
theorem u32 (b : UInt8) : (b == 32) = decide ((b.toNat : Int) = 32) := by
  by_cases h : b = 32
  · subst h
    rfl
  · rw [beq_false_of_ne h]
    symm
    apply decide_eq_false
    intro e
    apply h
    apply UInt8.toNat_inj.1
    show b.toNat = 32
    omega
theorem idx_eq : ∀ l : List UInt8, Lib.indexByte l 32 = idxI (l.map fun b => (b.toNat : Int))
  | [] => rfl
  | b :: l => by
    rw [List.map_cons, Lib.indexByte, idxI, idx_eq l, u32]
    simp only [decide_eq_true_eq, beq_iff_eq]
theorem cnt_eq : ∀ l : List UInt8, Lib.countByte l 32 = (l.map fun b => (b.toNat : Int)).count 32
  | [] => rfl
  | b :: l => by
    have ih := cnt_eq l
    unfold Lib.countByte at ih ⊢
    have h : (b == (32 : UInt8)) = ((b.toNat : Int) == 32) := by
      rw [u32]
      by_cases e : (b.toNat : Int) = 32
      · rw [decide_eq_true e]; exact (beq_iff_eq.2 e).symm
      · rw [decide_eq_false e]; exact (beq_false_of_ne e).symm
    rw [List.map_cons, List.count_cons, List.count_cons, ih, h]
theorem cut_none : ∀ l : List Int, l.count 32 = 0 → cut l = [l]
  | [], _ => rfl
  | c :: r, h => by
    rw [List.count_cons] at h
    by_cases e : c = 32
    · subst e
      simp at h
    · exact cut_other e (cut_none r (by omega))
theorem idx_miss : ∀ l : List Int, idxI l = -1 → l.count 32 = 0
  | [], _ => rfl
  | c :: r, h => by
    rw [idxI] at h
    by_cases e : c = 32
    · rw [if_pos e] at h
      omega
    · rw [if_neg e] at h
      by_cases g : idxI r = -1
      · rw [List.count_cons, idx_miss r g]
        simp [e]
      · rw [if_neg g] at h
        exact absurd h (by
          have : ∀ l : List Int, -1 ≤ idxI l := fun l => by
            induction l with
            | nil => simp [idxI]
            | cons b l ih =>
              rw [idxI]
              split
              · omega
              · split <;> omega
          have := this r
          omega)
theorem idx_hit : ∀ (l : List Int), l.count 32 ≠ 0 → ∃ m : Nat, idxI l = m ∧ m < l.length ∧ cut l = l.take m :: cut (l.drop (m + 1)) ∧ l.count 32 = (l.drop (m + 1)).count 32 + 1
  | [], h => by simp at h
  | c :: r, h => by
    by_cases e : c = 32
    · subst e
      refine ⟨0, by simp [idxI], by simp, cut_blank r, ?_⟩
      simp
    · have hc : (c :: r).count 32 = r.count 32 := by rw [List.count_cons]; simp [e]
      obtain ⟨m, h1, h2, h3, h4⟩ := idx_hit r (by rw [← hc]; exact h)
      refine ⟨m + 1, ?_, by simp; omega, ?_, ?_⟩
      · rw [idxI, if_neg e, h1, if_neg (by omega)]
        omega
      · rw [cut_other e h3]
        rfl
      · rw [hc, h4]
        rfl
theorem cut_len : ∀ l : List Int, (cut l).length = l.count 32 + 1
  | [] => rfl
  | c :: r => by
    by_cases e : c = 32
    · subst e
      rw [cut_blank]
      simp [cut_len r]
    · match hr : cut r, cut_ne r with
      | p :: q, _ =>
        have := cut_len r
        rw [hr] at this
        rw [cut_other e hr, List.count_cons]
        simp [e] at this ⊢
        omega
theorem cut_pieces : ∀ (l : List Int), ∀ p ∈ cut l, p.length ≤ l.length ∧ (Bytes l → Bytes p)
  | [], p, hp => by
    rw [cut] at hp
    rw [List.mem_singleton.1 hp]
    exact ⟨Nat.le_refl _, fun h => h⟩
  | c :: r, p, hp => by
    by_cases e : c = 32
    · subst e
      rw [cut_blank] at hp
      rcases List.mem_cons.1 hp with rfl | hp
      · exact ⟨by simp, fun _ x hx => by simp at hx⟩
      · obtain ⟨h1, h2⟩ := cut_pieces r p hp
        exact ⟨by simp; omega, fun h => h2 (fun x hx => h x (List.mem_cons_of_mem _ hx))⟩
    · match hr : cut r, cut_ne r with
      | p' :: q, _ =>
        rw [cut_other e hr] at hp
        rcases List.mem_cons.1 hp with rfl | hp
        · obtain ⟨h1, h2⟩ := cut_pieces r p' (by rw [hr]; simp)
          refine ⟨by simp; omega, fun h x hx => ?_⟩
          rcases List.mem_cons.1 hx with rfl | hx
          · exact h _ (by simp)
          · exact h2 (fun y hy => h y (List.mem_cons_of_mem _ hy)) x hx
        · obtain ⟨h1, h2⟩ := cut_pieces r p (by rw [hr]; exact List.mem_cons_of_mem _ hp)
          exact ⟨by simp; omega, fun h => h2 (fun x hx => h x (List.mem_cons_of_mem _ hx))⟩
/-- A line gone through sign by sign, with what stands since the last blank. -/
def goW : List Int → List Int → List (List Int)
  | p, [] => [p]
  | p, c :: r => if c = 32 then p :: goW [] r else goW (p ++ [c]) r
theorem goW_cut : ∀ (l p : List Int), goW p l = match cut l with
    | [] => [p]
    | h :: t => (p ++ h) :: t
  | [], p => by simp [goW, cut]
  | c :: r, p => by
    rw [goW]
    by_cases e : c = 32
    · subst e
      rw [if_pos rfl, cut_blank, goW_cut r []]
      match hr : cut r, cut_ne r with
      | h :: t, _ => simp
    · rw [if_neg e, goW_cut r (p ++ [c])]
      match hr : cut r, cut_ne r with
      | h :: t, _ => simp [cut_other e hr]
theorem goW_nil (l : List Int) : goW [] l = cut l := by
  rw [goW_cut]
  match hr : cut l, cut_ne l with
  | h :: t, _ => simp
/-! ### the reading of pieces -/
def readS (s : ByteArray) : ByteArray × Bool := (strOfNums (readL (bytesOf s)).1, (readL (bytesOf s)).2)
def readsO : List ByteArray → Option (List ByteArray)
  | [] => some []
  | p :: q => if (readS p).2 = true then (readsO q).map ((readS p).1 :: ·) else none
def endO (acc : List ByteArray) : Option (List ByteArray) → List ByteArray × Bool
  | none => ([], false)
  | some x => (acc ++ x, true)
theorem endO_yes {acc : List ByteArray} {p : ByteArray} {q : List ByteArray} (h : (readS p).2 = true) : endO acc (readsO (p :: q)) = endO (acc ++ [(readS p).1]) (readsO q) := by
  rw [readsO, if_pos h]
  cases readsO q with
  | none => rfl
  | some x => simp [endO]
theorem endO_no {acc : List ByteArray} {p : ByteArray} {q : List ByteArray} (h : ¬ (readS p).2 = true) : endO acc (readsO (p :: q)) = ([], false) := by
  rw [readsO, if_neg h]
  rfl
theorem piece (s : ByteArray) (a b : Nat) : s.extract a b = strOfNums (((bytesOf s).take b).drop a) := by
  apply bytesOf_inj
  rw [bytesOf_extract, bytes_str]
  intro x hx
  exact bytesOf_bytes s x (List.mem_of_mem_take (List.mem_of_mem_drop hx))
/-- The words of a line that is one of words. -/
def joinW : List (List Int) → List Int
  | [] => []
  | [x] => x
  | x :: y :: r => x ++ 32 :: joinW (y :: r)
theorem cut_plain : ∀ (x : List Int), (∀ c ∈ x, c ≠ 32) → cut x = [x]
  | [], _ => rfl
  | c :: r, h => cut_other (h c (by simp)) (cut_plain r (fun d hd => h d (List.mem_cons_of_mem _ hd)))
theorem cut_app : ∀ (x r : List Int), (∀ c ∈ x, c ≠ 32) → cut (x ++ 32 :: r) = x :: cut r
  | [], r, _ => cut_blank r
  | c :: x, r, h => cut_other (h c (by simp)) (cut_app x r (fun d hd => h d (List.mem_cons_of_mem _ hd)))
theorem cut_join : ∀ (ws : List (List Int)), ws ≠ [] → (∀ w ∈ ws, ∀ c ∈ w, c ≠ 32) → cut (joinW ws) = ws
  | [], h, _ => absurd rfl h
  | [x], _, h => cut_plain x (h x (by simp))
  | x :: y :: r, _, h => by
    rw [joinW, cut_app x _ (h x (by simp)), cut_join (y :: r) (by simp) (fun w hw => h w (List.mem_cons_of_mem _ hw))]
theorem word_noblank {l : List Int} (hb : Bytes l) : ∀ c ∈ wordL l, c ≠ 32 := by
  unfold wordL
  split
  · intro c hc
    rw [List.mem_singleton.1 hc]
    omega
  · intro c hc
    obtain ⟨d, hd, hc⟩ := List.mem_flatMap.1 hc
    have hr := hb d hd
    cases hp : plainB d
    · rw [encB_no hp] at hc
      have h1 := digU_in (n := d / 16) (by omega) (by omega)
      have h2 := digU_in (n := d % 16) (by omega) (by omega)
      simp at hc
      omega
    · rw [encB_yes hp] at hc
      have := plain_tells hp
      rw [List.mem_singleton.1 hc]
      omega
theorem word_ne (l : List Int) : wordL l ≠ [] := by
  unfold wordL
  split
  · simp
  · rename_i h
    exact flat_ne h
theorem joinW_ne : ∀ {ws : List (List Int)}, ws ≠ [] → (∀ w ∈ ws, w ≠ []) → joinW ws ≠ []
  | [], h, _ => absurd rfl h
  | [x], _, h => h x (by simp)
  | x :: y :: r, _, h => by
    rw [joinW]
    simp
theorem joinW_bytes : ∀ {ws : List (List Int)}, (∀ w ∈ ws, Bytes w) → Bytes (joinW ws)
  | [], _ => fun x hx => by simp [joinW] at hx
  | [x], h => h x (by simp)
  | x :: y :: r, h => by
    intro c hc
    rw [joinW] at hc
    rcases List.mem_append.1 hc with hc | hc
    · exact h x (by simp) c hc
    · rcases List.mem_cons.1 hc with rfl | hc
      · omega
      · exact joinW_bytes (fun w hw => h w (List.mem_cons_of_mem _ hw)) c hc
end Go.Proofs.YtfhnmcjajpnhpaaDoor.Wds
