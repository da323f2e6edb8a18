/- Words for walks by hand: '[]byte(s)' and a loop over it. -/
import Derived.Test.YtbbegchdlkmebaaWWords
import Derived.Test.YtbbegchdlkmebaaWMore
import Derived.Lib.ConvBytes
import Derived.Lib.Hide
import Derived.WalkKit
import Derived.Laws.Closers25b
namespace Go.Proofs.Ytbbegchdlkmebaa.Conv
open Go.RowKit Go.Proofs.YtbbegchdlkmebaaW.PrintWords
set_option linter.unusedVariables false
set_option linter.unusedSimpArgs false

theorem below_bytes (w : World) (e : TypeId) (s : ByteArray) : Below w.heap.size w (Lib.bytesWorld w e s) :=
  (Below.refl w.heap.size w).grown (row := none) ⟨rfl, rfl, rfl, by rw [Lib.bytesWorld_size]; omega, fun k hk _ => Lib.bytesWorld_at_old w e s k hk⟩ (Nat.le_refl _) (by simp)
theorem bytesOf_len (s : ByteArray) : (bytesOf s).length = s.size := by
  show (s.data.toList.map _).length = s.data.size
  rw [List.length_map, Array.length_toList]
theorem bytesOf_get (s : ByteArray) (k : Nat) (h : k < s.size) : (bytesOf s)[k]? = some (((s.data.toList.getD k 0).toNat : Int)) := by
  have h2 : k < s.data.toList.length := by
    rw [Array.length_toList]
    exact h
  show (s.data.toList.map _)[k]? = _
  rw [List.getElem?_map, List.getElem?_eq_getElem h2, List.getD, List.getElem?_eq_getElem h2]
  rfl
theorem byte_range (s : ByteArray) (k : Nat) : (0 : Int) ≤ ((s.data.toList.getD k 0).toNat : Int) ∧ ((s.data.toList.getD k 0).toNat : Int) ≤ 255 := by
  have := (s.data.toList.getD k 0).toNat_lt
  omega
theorem take_succ_all {p : Int → Bool} (s : ByteArray) (k : Nat) (h : k < s.size) (h1 : ((bytesOf s).take k).all p = true) (h2 : p ((s.data.toList.getD k 0).toNat : Int) = true) : ((bytesOf s).take (k + 1)).all p = true := by
  rw [List.take_add_one, bytesOf_get s k h, List.all_append, h1]
  simp only [Option.toList_some, List.all_cons, List.all_nil, Bool.and_true, Bool.true_and]
  exact h2
theorem all_false {p : Int → Bool} (s : ByteArray) (k : Nat) (h : k < s.size) (h2 : p ((s.data.toList.getD k 0).toNat : Int) = false) : (bytesOf s).all p = false := by
  rw [List.all_eq_false]
  exact ⟨_, List.mem_of_getElem? (bytesOf_get s k h), by rw [h2]; decide⟩
theorem all_done {p : Int → Bool} (s : ByteArray) (k : Nat) (h : ¬ k < s.size) (h1 : ((bytesOf s).take k).all p = true) : (bytesOf s).all p = true := by
  rwa [List.take_of_length_le (by rw [bytesOf_len]; omega)] at h1
theorem toList_nil {s : ByteArray} (h : s.size = 0) : s.toList = [] := by
  have : s = ByteArray.empty := by
    cases s with
    | mk d =>
      have : d = #[] := Array.size_eq_zero_iff.1 h
      rw [this]
      rfl
  exact (Go.toList_nil_iff_emptyBytes s).2 this
theorem toList_ne {s : ByteArray} (h : ¬ s.size = 0) : ¬ s.toList = [] ∧ s.toList.isEmpty = false := by
  have h1 : ¬ s.toList = [] := fun e => h (by
    rw [(Go.toList_nil_iff_emptyBytes s).1 e]
    rfl)
  exact ⟨h1, by simp [h1]⟩
theorem bt0 {s : ByteArray} (h : 0 < s.size) : bt s 0 = ((s[0]'h).toNat : Int) := by
  unfold bt
  rw [dif_pos (show (0 : Int).toNat < s.size from h)]
  rfl
theorem ret_bool {a b : Bool} (h : a = b) : Ending.returned (.bool a) = .returned (.bool b) := by rw [h]
end Go.Proofs.Ytbbegchdlkmebaa.Conv
