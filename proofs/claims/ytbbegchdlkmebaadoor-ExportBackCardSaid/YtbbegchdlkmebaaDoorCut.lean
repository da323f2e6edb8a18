/- Texts cut at a sign, and joined by it; in plain Lean. -/
import Derived.Test.YtbbegchdlkmebaaDoorStr
import Derived.Test.YtbbegchdlkmebaaDoorEvs
import Derived.Lib.Bytealg
namespace Go.Proofs.YtbbegchdlkmebaaDoor.Cut
open Go.RowKit Go.Proofs.YtbbegchdlkmebaaDoorW.PrintWords Go.Proofs.YtbbegchdlkmebaaDoor.Conv Go.Proofs.YtbbegchdlkmebaaDoor.Str Go.Proofs.YtbbegchdlkmebaaDoor.Evs
set_option linter.unusedVariables false
set_option linter.unusedSimpArgs false

def cutC (z : Int) : List Int → List (List Int)
  | [] => [[]]
  | c :: r => if c = z then [] :: cutC z r else match cutC z r with
    | [] => [[c]]
    | p :: q => (c :: p) :: q
theorem cutC_sep (z : Int) (r : List Int) : cutC z (z :: r) = [] :: cutC z r := by
  rw [cutC, if_pos rfl]
theorem cutC_ne (z : Int) : ∀ l : List Int, cutC z l ≠ []
  | [] => by simp [cutC]
  | c :: r => by
    rw [cutC]
    split
    · simp
    · split <;> simp
theorem cutC_other {z c : Int} {r p : List Int} {q : List (List Int)} (h : c ≠ z) (e : cutC z r = p :: q) : cutC z (c :: r) = (c :: p) :: q := by
  rw [cutC, if_neg h, e]
def idxC (z : Int) : List Int → Int
  | [] => -1
  | b :: l => if b = z then 0 else if idxC z l = -1 then -1 else idxC z l + 1
theorem u8eq (b z : UInt8) : (b == z) = decide ((b.toNat : Int) = (z.toNat : Int)) := by
  by_cases h : b = z
  · subst h
    simp
  · rw [beq_false_of_ne h]
    symm
    apply decide_eq_false
    intro e
    apply h
    apply UInt8.toNat_inj.1
    omega
theorem idxC_eq (z : UInt8) : ∀ l : List UInt8, Lib.indexByte l z = idxC (z.toNat : Int) (l.map fun b => (b.toNat : Int))
  | [] => rfl
  | b :: l => by
    rw [List.map_cons, Lib.indexByte, idxC, idxC_eq z l, u8eq]
    simp only [decide_eq_true_eq, beq_iff_eq]
theorem cntC_eq (z : UInt8) : ∀ l : List UInt8, Lib.countByte l z = (l.map fun b => (b.toNat : Int)).count (z.toNat : Int)
  | [] => rfl
  | b :: l => by
    have ih := cntC_eq z l
    unfold Lib.countByte at ih ⊢
    have h : (b == z) = ((b.toNat : Int) == (z.toNat : Int)) := by
      rw [u8eq]
      by_cases e : (b.toNat : Int) = (z.toNat : Int)
      · rw [decide_eq_true e]; exact (beq_iff_eq.2 e).symm
      · rw [decide_eq_false e]; exact (beq_false_of_ne e).symm
    rw [List.map_cons, List.count_cons, List.count_cons, ih, h]
theorem cutC_none (z : Int) : ∀ l : List Int, l.count z = 0 → cutC z l = [l]
  | [], _ => rfl
  | c :: r, h => by
    rw [List.count_cons] at h
    by_cases e : c = z
    · subst e
      simp at h
    · exact cutC_other e (cutC_none z r (by omega))
theorem idxC_miss (z : Int) : ∀ l : List Int, l.count z = 0 → idxC z l = -1
  | [], _ => rfl
  | c :: r, h => by
    rw [List.count_cons] at h
    by_cases e : c = z
    · subst e
      simp at h
    · rw [idxC, if_neg e, if_pos (idxC_miss z r (by omega))]
theorem idxC_hit (z : Int) : ∀ (l : List Int), l.count z ≠ 0 → ∃ m : Nat, idxC z l = m ∧ m < l.length ∧ cutC z l = l.take m :: cutC z (l.drop (m + 1)) ∧ l.count z = (l.drop (m + 1)).count z + 1 ∧ l = l.take m ++ z :: l.drop (m + 1) ∧ z ∉ l.take m
  | [], h => by simp at h
  | c :: r, h => by
    by_cases e : c = z
    · subst e
      refine ⟨0, by simp [idxC], by simp, cutC_sep c r, ?_, rfl, by simp⟩
      simp
    · have hc : (c :: r).count z = r.count z := by rw [List.count_cons]; simp [e]
      obtain ⟨m, h1, h2, h3, h4, h5, h6⟩ := idxC_hit z r (by rw [← hc]; exact h)
      refine ⟨m + 1, ?_, by simp; omega, ?_, ?_, ?_, ?_⟩
      · rw [idxC, if_neg e, h1, if_neg (by omega)]
        omega
      · rw [cutC_other e h3]
        rfl
      · rw [hc, h4]
        rfl
      · rw [List.take_succ_cons, List.drop_succ_cons, List.cons_append, ← h5]
      · rw [List.take_succ_cons]
        intro hm
        rcases List.mem_cons.1 hm with e2 | hm
        · exact e e2.symm
        · exact h6 hm
theorem cutC_pieces (z : Int) : ∀ (l : List Int), ∀ p ∈ cutC z l, p.length ≤ l.length ∧ (Bytes l → Bytes p)
  | [], p, hp => by
    rw [cutC] at hp
    rw [List.mem_singleton.1 hp]
    exact ⟨Nat.le_refl _, fun h => h⟩
  | c :: r, p, hp => by
    by_cases e : c = z
    · subst e
      rw [cutC_sep] at hp
      rcases List.mem_cons.1 hp with rfl | hp
      · exact ⟨by simp, fun _ x hx => by simp at hx⟩
      · obtain ⟨h1, h2⟩ := cutC_pieces c r p hp
        exact ⟨by simp; omega, fun h => h2 (fun x hx => h x (List.mem_cons_of_mem _ hx))⟩
    · match hr : cutC z r, cutC_ne z r with
      | p' :: q, _ =>
        rw [cutC_other e hr] at hp
        rcases List.mem_cons.1 hp with rfl | hp
        · obtain ⟨h1, h2⟩ := cutC_pieces z r p' (by rw [hr]; simp)
          refine ⟨by simp; omega, fun h x hx => ?_⟩
          rcases List.mem_cons.1 hx with rfl | hx
          · exact h _ (by simp)
          · exact h2 (fun y hy => h y (List.mem_cons_of_mem _ hy)) x hx
        · obtain ⟨h1, h2⟩ := cutC_pieces z r p (by rw [hr]; exact List.mem_cons_of_mem _ hp)
          exact ⟨by simp; omega, fun h => h2 (fun x hx => h x (List.mem_cons_of_mem _ hx))⟩
theorem cutC_plain (z : Int) : ∀ (x : List Int), z ∉ x → cutC z x = [x]
  | [], _ => rfl
  | c :: r, h => cutC_other (fun e => h (by simp [e])) (cutC_plain z r (fun hd => h (List.mem_cons_of_mem _ hd)))
theorem cutC_app (z : Int) : ∀ (x r : List Int), z ∉ x → cutC z (x ++ z :: r) = x :: cutC z r
  | [], r, _ => cutC_sep z r
  | c :: x, r, h => cutC_other (fun e => h (by simp [e])) (cutC_app z x r (fun hd => h (List.mem_cons_of_mem _ hd)))
def joinC (z : Int) : List (List Int) → List Int
  | [] => []
  | [x] => x
  | x :: y :: r => x ++ z :: joinC z (y :: r)
theorem join_cutC (z : Int) : ∀ l : List Int, joinC z (cutC z l) = l
  | [] => rfl
  | c :: r => by
    have ih := join_cutC z r
    by_cases h : c = z
    · subst h
      rw [cutC_sep]
      match hr : cutC c r, cutC_ne c r with
      | p :: q, _ =>
        rw [hr] at ih
        rw [joinC, ih]
        rfl
    · match hr : cutC z r, cutC_ne z r with
      | p :: q, _ =>
        rw [cutC_other h hr]
        rw [hr] at ih
        match q, ih with
        | [], ih =>
          rw [joinC] at ih ⊢
          rw [ih]
        | y :: w, ih =>
          rw [joinC] at ih ⊢
          rw [List.cons_append, ih]
theorem pieceS (s : ByteArray) (a b : Nat) : s.extract a b = strOfNums (((bytesOf s).take b).drop a) := by
  apply bytesOf_inj
  rw [bytesOf_extract, bytes_str]
  intro x hx
  exact bytesOf_bytes s x (List.mem_of_mem_take (List.mem_of_mem_drop hx))
end Go.Proofs.YtbbegchdlkmebaaDoor.Cut
