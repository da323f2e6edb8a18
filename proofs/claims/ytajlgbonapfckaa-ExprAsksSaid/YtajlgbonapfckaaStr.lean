/- Strings as lists of their bytes; in plain Lean. -/
import Derived.Test.YtajlgbonapfckaaConv
import Derived.Laws.BytesArg
import Derived.Lib.Bytes
namespace Go.Proofs.Ytajlgbonapfckaa.Str
open Go.RowKit Go.Proofs.YtajlgbonapfckaaW.PrintWords Go.Proofs.Ytajlgbonapfckaa.Conv
set_option linter.unusedVariables false
set_option linter.unusedSimpArgs false

def Bytes (l : List Int) : Prop := ∀ x ∈ l, 0 ≤ x ∧ x ≤ 255
theorem bytesOf_bytes (s : ByteArray) : Bytes (bytesOf s) := by
  intro x hx
  obtain ⟨b, _, rfl⟩ := List.mem_map.1 hx
  have := b.toNat_lt
  omega
theorem ofNat_nat (b : UInt8) : UInt8.ofNat ((b.toNat : Int)).toNat = b := by simp
theorem str_bytes (s : ByteArray) : strOfNums (bytesOf s) = s := by
  cases s with
  | mk d =>
    show ByteArray.mk (((d.toList.map fun b => (b.toNat : Int)).map fun n => UInt8.ofNat n.toNat).toArray) = _
    rw [List.map_map]
    have : (d.toList.map ((fun n : Int => UInt8.ofNat n.toNat) ∘ fun b : UInt8 => (b.toNat : Int))) = d.toList := by
      conv => rhs; rw [← List.map_id d.toList]
      exact List.map_congr_left fun b _ => ofNat_nat b
    rw [this]
theorem bytes_str {l : List Int} (h : Bytes l) : bytesOf (strOfNums l) = l := by
  show ((l.map fun n => UInt8.ofNat n.toNat).toArray.toList.map fun b => (b.toNat : Int)) = l
  rw [List.toList_toArray, List.map_map]
  conv => rhs; rw [← List.map_id l]
  refine List.map_congr_left fun x hx => ?_
  have := h x hx
  show ((UInt8.ofNat x.toNat).toNat : Int) = x
  rw [UInt8.toNat_ofNat']
  omega
theorem bytesOf_inj {a b : ByteArray} (h : bytesOf a = bytesOf b) : a = b := by rw [← str_bytes a, ← str_bytes b, h]
theorem size_str (l : List Int) : (strOfNums l).size = l.length := by
  show (l.map _).toArray.size = _
  simp
theorem toList_inj {a b : ByteArray} (h : a.toList = b.toList) : a = b := by
  rw [ByteArray.toList_eq, ByteArray.toList_eq] at h
  cases a; cases b
  exact congrArg ByteArray.mk (Array.toList_inj.1 h)
theorem toList_iff {a b : ByteArray} : a.toList = b.toList ↔ bytesOf a = bytesOf b := ⟨fun h => by rw [toList_inj h], fun h => by rw [bytesOf_inj h]⟩
theorem bytesOf_append (a b : ByteArray) : bytesOf (a ++ b) = bytesOf a ++ bytesOf b := by
  show (a ++ b).data.toList.map _ = _
  rw [ByteArray.data_append, Array.toList_append, List.map_append]
  rfl
theorem str_append (a b : List Int) : strOfNums a ++ strOfNums b = strOfNums (a ++ b) := by
  apply bytesOf_inj
  rw [bytesOf_append]
  show ((a.map _).toArray.toList.map _) ++ ((b.map _).toArray.toList.map _) = (((a ++ b).map _).toArray.toList.map _)
  simp
theorem toList_eq_nil {s : ByteArray} : s.toList = [] ↔ s.size = 0 := by
  constructor
  · intro h
    have : s = ByteArray.empty := (Go.toList_nil_iff_emptyBytes s).1 h
    rw [this]
    rfl
  · exact toList_nil
theorem bt_get (s : ByteArray) (i : Nat) : bt s (i : Int) = (bytesOf s).getD i 0 := by
  rw [← rd_bytesOf]
  simp [rd]
theorem bt_drop (s : ByteArray) (i : Nat) (h : i < s.size) : (bytesOf s).drop i = bt s (i : Int) :: (bytesOf s).drop (i + 1) := by
  have h1 : i < (bytesOf s).length := by rw [bytesOf_length]; exact h
  rw [List.drop_eq_getElem_cons h1, bt_get, List.getD_eq_getElem?_getD, List.getElem?_eq_getElem h1]
  rfl
theorem bt_take (s : ByteArray) (i : Nat) (h : i < s.size) : (bytesOf s).take (i + 1) = (bytesOf s).take i ++ [bt s (i : Int)] := by
  have h1 : i < (bytesOf s).length := by rw [bytesOf_length]; exact h
  rw [List.take_succ_eq_append_getElem h1, bt_get, List.getD_eq_getElem?_getD, List.getElem?_eq_getElem h1]
  rfl
theorem bytesOf_empty : bytesOf (⟨#[]⟩ : ByteArray) = [] := rfl
theorem bytesOf_extract (s : ByteArray) (i j : Nat) : bytesOf (s.extract i j) = ((bytesOf s).take j).drop i := by
  show (s.extract i j).data.toList.map _ = _
  rw [ByteArray.data_extract, Array.toList_extract, List.extract_eq_drop_take', List.map_drop, List.map_take]
  rfl
theorem bytesOf_cons_size {s : ByteArray} (h : s.size ≠ 0) : bytesOf s ≠ [] := by
  intro e
  have := bytesOf_length s
  rw [e] at this
  exact h (by simpa using this.symm)
end Go.Proofs.Ytajlgbonapfckaa.Str
