/- OpNames: the words of the kinds, and the bits of a crash, in plain Lean. -/
import Derived.Test.YtfhnmcjajpnhpaaDoorPOpNamesx5
import Derived.Test.YtfhnmcjajpnhpaaDoorStr
import Derived.Test.YtfhnmcjajpnhpaaDoorEvs
namespace Go.Proofs.YtfhnmcjajpnhpaaDoor.Pure
open Go.RowKit Go.Proofs.YtfhnmcjajpnhpaaDoor.POpNames Go.Proofs.YtfhnmcjajpnhpaaDoorW.PrintWords Go.Proofs.YtfhnmcjajpnhpaaDoorW.PrintMore Go.Proofs.YtfhnmcjajpnhpaaDoor.Evs Go.Proofs.YtfhnmcjajpnhpaaDoor.Str Go.Proofs.YtfhnmcjajpnhpaaDoor.Conv
set_option linter.unusedVariables false
set_option linter.unusedSimpArgs false
namespace ON
theorem awake_tells : Ev (fun k => logbooklaw46_awake.f k) true := ⟨10, fun k hk => by
  obtain ⟨m, rfl⟩ : ∃ m, k = m + 10 := ⟨k - 10, by omega⟩
  have h : ∀ m, logbooklaw46_awake.f 10 = some true → logbooklaw46_awake.f (m + 10) = some true := fun m h => by
    induction m with
    | zero => exact h
    | succ m ih => rw [show m + 1 + 10 = m + 10 + 1 by omega]; exact logbooklaw46_awake.mono (m + 10) _ ih
  exact h m (by decide +kernel)⟩
theorem wn {i n : Nat} (h : i ≤ n) (hn : n ≤ 100000000) : wrap64 ((i : Int) + 1) = ((i + 1 : Nat) : Int) := by
  rw [w64 (by omega) (by omega)]
  omega
def bitC (b : Bool) : Int := if b then 49 else 48
def txt (l : List Bool) (i : Nat) : ByteArray := strOfNums ((l.take i).map bitC)
theorem txt_size (l : List Bool) (i : Nat) : (txt l i).size = min i l.length := by
  unfold txt
  rw [size_str, List.length_map, List.length_take]
theorem txt_bits (l : List Bool) (i : Nat) : (bytesOf (txt l i)).map oneB = l.take i := by
  unfold txt
  rw [bytes_str, List.map_map]
  · conv => rhs; rw [← List.map_id (l.take i)]
    exact List.map_congr_left fun b _ => by cases b <;> rfl
  · intro x hx
    obtain ⟨b, _, rfl⟩ := List.mem_map.1 hx
    cases b <;> simp [bitC]
theorem txt_succ (l : List Bool) (i : Nat) (h : i < l.length) : txt l (i + 1) = txt l i ++ (if rdOf false l (i : Int) = true then (⟨#[49]⟩ : ByteArray) else ⟨#[48]⟩) := by
  have e : rdOf false l (i : Int) = l[i] := by
    unfold rdOf
    rw [Int.toNat_natCast, List.getD_eq_getElem?_getD, List.getElem?_eq_getElem h]
    rfl
  unfold txt
  rw [e, List.take_succ_eq_append_getElem h, List.map_append, ← str_append]
  cases l[i] <;> rfl
theorem rd_take (l : List Bool) (n i : Nat) (h : i < n) : rdOf false (l.take n) (i : Int) = rdOf false l (i : Int) := by
  unfold rdOf
  rw [Int.toNat_natCast, List.getD_eq_getElem?_getD, List.getD_eq_getElem?_getD, List.getElem?_take, if_pos h]
def wantS (a : Int) : ByteArray := if 0 ≤ a ∧ a < 34 then opNames.getD a.toNat ⟨#[]⟩ else ⟨#[]⟩
theorem l1_go (a : Int) (l : List Bool) (n : Nat) (hn : n ≤ l.length) (hn5 : n ≤ 500) : ∀ (d i : Nat), d + i = n → Ev (fun k => logbooklaw46_OpNames.l1 k a l (wantS a) (l.take n) i) true
  | 0, i, hd => by
    have hl : (l.take n).length = n := by rw [List.length_take]; omega
    refine Ev.step (fun k => logbooklaw46_OpNames.l1.eq_2 _ _ _ _ _ _) (Ev.neg (by rw [hl]; omega) ?_)
    have e : op_Name.f a = some (wantS a) := rfl
    exact Ev.bindc e (Ev.pos rfl (Ev.bind awake_tells (Ev.now _)))
  | d + 1, i, hd => by
    have hl : (l.take n).length = n := by rw [List.length_take]; omega
    refine Ev.step (fun k => logbooklaw46_OpNames.l1.eq_2 _ _ _ _ _ _) (Ev.pos (by rw [hl]; omega) (Ev.pos (by omega) (Ev.pos (by omega) ?_)))
    rw [rd_take l n i (by omega), wn (n := n) (by omega) (by omega)]
    exact Ev.neg (by simp) (l1_go a l n hn hn5 d (i + 1) (by omega))
theorem j3_end (a : Int) (l : List Bool) (n : Nat) (hn : n ≤ l.length) (hn5 : n ≤ 500) (i : Int) : Ev (fun k => logbooklaw46_OpNames.j3 k a l (wantS a) (txt l n) i false) true := by
  have hs := txt_size l n
  have e1 : op_Op_Bits.f 8 [] [txt l n] = some (l.take n) := by
    rw [← txt_bits l n]
    show (if (8 : Int) = 8 then (if (txt l n).size ≤ 140737488351232 then some ((bytesOf (txt l n)).map oneB) else none) else some []) = _
    rw [if_pos rfl, if_pos (by omega)]
  have e2 : op_Op_Bits.f 23 [] [txt l n] = some [] := rfl
  refine Ev.step (fun k => logbooklaw46_OpNames.j3.eq_2 _ _ _ _ _ _ _) (Ev.neg (by simp) (Ev.bindc e1 (Ev.pos ?_ (Ev.bindc e2 ?_))))
  · rw [hs, List.length_take]
  · refine Ev.step (fun k => logbooklaw46_OpNames.j4.eq_2 _ _ _ _ _ _) (Ev.neg (by simp) ?_)
    exact l1_go a l n hn hn5 n 0 (by omega)
theorem l0_go (a : Int) (l : List Bool) : ∀ (d i : Nat), d + i = min l.length 500 → Ev (fun k => logbooklaw46_OpNames.l0 k a l (wantS a) (txt l i) i) true
  | 0, i, hd => by
    have h := j3_end a l i (by omega) (by omega) (i : Int)
    refine Ev.step (fun k => logbooklaw46_OpNames.l0.eq_2 _ _ _ _ _ _) (Ev.both (fun h1 => ?_) (fun _ => h))
    rw [show decide ((i : Int) < 500) = false from decide_eq_false (by omega)]
    exact h
  | d + 1, i, hd => by
    have hi : i < l.length := by omega
    have ih := l0_go a l d (i + 1) (by omega)
    have hs := txt_size l i
    rw [txt_succ l i hi] at ih
    refine Ev.step (fun k => logbooklaw46_OpNames.l0.eq_2 _ _ _ _ _ _) (Ev.pos (by omega) ?_)
    rw [show decide ((i : Int) < 500) = true from decide_eq_true (by omega)]
    refine Ev.step (fun k => logbooklaw46_OpNames.j3.eq_2 _ _ _ _ _ _ _) (Ev.pos rfl (Ev.pos (by omega) (Ev.pos (by omega) ?_)))
    rw [wn (n := 500) (by omega) (by omega)]
    refine Ev.both (fun h => Ev.pos (by omega) ?_) (fun h => Ev.pos (by omega) ?_)
    · rw [if_pos h] at ih
      exact ih
    · rw [if_neg h] at ih
      exact ih
theorem names : ∀ i : Fin 33, ((logbookref46_Rows.f).map fun r => (rd_T39 r (i.val : Int)).f0.data) = some (opNames.getD (i.val + 1) ⟨#[]⟩).data := by decide +kernel
theorem start (a : Int) (l : List Bool) : Ev (fun k => logbooklaw46_OpNames.l0 k a l (wantS a) (⟨#[]⟩ : ByteArray) 0) true := l0_go a l (min l.length 500) 0 (by omega)
theorem law (a : Int) (h0 : -9223372036854775808 ≤ a) (h1 : a ≤ 9223372036854775807) (l : List Bool) : ∃ k, logbooklaw46_OpNames.f k a l = some true := by
  refine Ev.at ?_
  have hl : ∀ r, logbookref46_Rows.f = some r → r.length = 33 := by
    intro r h
    rw [← Option.some.inj h]
    rfl
  obtain ⟨r, hr⟩ : ∃ r, logbookref46_Rows.f = some r := ⟨_, rfl⟩
  have hlen := hl r hr
  refine Ev.bindc hr ?_
  have no : ¬ (1 ≤ a ∧ a ≤ 33) → wantS a = ⟨#[]⟩ := by
    intro h
    unfold wantS
    by_cases hz : a = 0
    · subst hz
      rfl
    · rw [if_neg (by omega)]
  refine Ev.both (fun ha => ?_) (fun ha => ?_)
  · by_cases hb : a ≤ 33
    · rw [show decide (a ≤ (r.length : Int)) = true from decide_eq_true (by omega)]
      have ew : wrap64 (a - 1) = ((a.toNat - 1 : Nat) : Int) := by
        rw [w64 (by omega) (by omega)]
        omega
      refine Ev.step (fun k => logbooklaw46_OpNames.j0.eq_2 _ _ _ _ _ _) (Ev.pos rfl (Ev.pos (by rw [ew]; omega) (Ev.pos (by rw [ew]; omega) ?_)))
      rw [ew]
      have hn := names ⟨a.toNat - 1, by omega⟩
      rw [hr] at hn
      have hn2 := Option.some.inj hn
      have e : (rd_T39 r ((a.toNat - 1 : Nat) : Int)).f0 = wantS a := by
        unfold wantS
        rw [if_pos (by omega)]
        have h3 : a.toNat - 1 + 1 = a.toNat := by omega
        have h4 : (rd_T39 r ((a.toNat - 1 : Nat) : Int)).f0.data = (opNames.getD (a.toNat - 1 + 1) ⟨#[]⟩).data := hn2
        rw [h3] at h4
        exact congrArg ByteArray.mk h4
      rw [e]
      exact Ev.step (fun k => logbooklaw46_OpNames.j1.eq_2 _ _ _ _) (start a l)
    · rw [show decide (a ≤ (r.length : Int)) = false from decide_eq_false (by omega)]
      refine Ev.step (fun k => logbooklaw46_OpNames.j0.eq_2 _ _ _ _ _ _) (Ev.neg (by simp) (Ev.step (fun k => logbooklaw46_OpNames.j1.eq_2 _ _ _ _) ?_))
      have := start a l
      rw [no (by omega)] at this
      exact this
  · refine Ev.step (fun k => logbooklaw46_OpNames.j0.eq_2 _ _ _ _ _ _) (Ev.neg (by simp) (Ev.step (fun k => logbooklaw46_OpNames.j1.eq_2 _ _ _ _) ?_))
    have := start a l
    rw [no (by omega)] at this
    exact this
end ON
end Go.Proofs.YtfhnmcjajpnhpaaDoor.Pure
namespace Go.Proofs.YtfhnmcjajpnhpaaDoor.PureOpNames
set_option linter.unusedVariables false
open Go.Proofs.YtfhnmcjajpnhpaaDoor.POpNames
theorem OpNames (y0 : Int) (y1 : List Bool) (w0 : (Lit.int .i64 y0).wf = true) (w1 : y1.length ≤ maxLen ∧ y1.length * 1 ≤ 140737488351232 ∧ ∀ x ∈ y1, True) : ∃ k, logbooklaw46_OpNames.f k y0 y1 = some true :=
  have h := Evs.wf_i64 w0
  Pure.ON.law y0 h.1 h.2 y1
end Go.Proofs.YtfhnmcjajpnhpaaDoor.PureOpNames
