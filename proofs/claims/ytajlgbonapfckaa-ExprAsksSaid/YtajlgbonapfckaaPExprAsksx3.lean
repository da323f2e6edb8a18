-- LAID BY gprint.py: a scratch copy of the print, with functions that this session proved by hand among the printed ones
import Derived.Test.YtajlgbonapfckaaPExprAsksx0
import Derived.Test.YtajlgbonapfckaaPExprAsksx1
import Derived.Test.YtajlgbonapfckaaPExprAsksx2
namespace Go.Proofs.Ytajlgbonapfckaa.PExprAsks
open Go.RowKit Go.Proofs.YtajlgbonapfckaaW.PrintWords Go.Proofs.YtajlgbonapfckaaW.PrintLast Go.Proofs.Ytajlgbonapfckaa.Conv Go.Proofs.YtajlgbonapfckaaW.PrintMore
attribute [local go_sem] max2_int min2_int max_two min_two max_three min_three max_four min_four gtr_less   -- for this text's walks alone
set_option linter.unusedVariables false
set_option linter.unusedSimpArgs false

-- GIVEN rounds=0 making=1 shelf needs=logbook/item.Field,slices.Clone[[]string,string],slices.Compact[[]string,string]
/-! ### item.Sorted: by hand: slices.SortFunc with a closure -/
/-- Old blocks lie as they lay, and no fewer orders have been drawn. -/
structure Gro (w w' : World) : Prop where mk :: (below : Below w.heap.size w w') (drawn : w.drawn ≤ w'.drawn)
theorem Gro.refl (w : World) : Gro w w := ⟨Below.refl _ _, Nat.le_refl _⟩
theorem Gro.trans {a b c : World} (h : Gro a b) (k : Gro b c) : Gro a c := ⟨h.below.trans (k.below.mono h.below.size), Nat.le_trans h.drawn k.drawn⟩
theorem Gro.drawn0 {w w' : World} (h : Drawn0 w w') : Gro w w' := ⟨h.below, by obtain ⟨n, rfl⟩ := h; exact Nat.le_add_right _ _⟩
theorem Gro.alloc (w : World) (o : Obj) : Gro w (w.alloc o) := ⟨(Below.refl _ _).alloc (Nat.le_refl _) _, Nat.le_refl _⟩
theorem Gro.bytes (w : World) (e : TypeId) (s : ByteArray) : Gro w (Lib.bytesWorld w e s) := ⟨below_bytes w e s, Nat.le_succ _⟩
theorem Gro.grow {w w' : World} (h : Gro w w') : ∃ q os, w' = Go.Sort.grow (w.drewN q) os := by
  obtain ⟨⟨h1, h2, h3, h4, h5⟩, h6⟩ := h
  refine ⟨w'.drawn - w.drawn, w'.heap.extract w.heap.size w'.heap.size, ?_⟩
  have hh : w'.heap = w.heap ++ w'.heap.extract w.heap.size w'.heap.size := by
    apply Array.ext_getElem?
    intro i
    rcases Nat.lt_or_ge i w.heap.size with hi | hi
    · rw [Array.getElem?_append_left hi]
      exact h5 i hi
    · rw [Array.getElem?_append_right hi, Array.getElem?_extract]
      rcases Nat.lt_or_ge i w'.heap.size with hj | hj
      · rw [if_pos (by omega), show w.heap.size + (i - w.heap.size) = i by omega]
      · rw [if_neg (by omega), Array.getElem?_eq_none hj]
  have hd : w'.drawn = w.drawn + (w'.drawn - w.drawn) := by omega
  cases w with
  | mk heap tape drawn os output =>
    cases w' with
    | mk heap' tape' drawn' os' output' =>
      simp only at h1 h2 h3 hh hd
      subst h1 h2 h3
      show World.mk heap' _ drawn' _ _ = World.mk (heap ++ heap'.extract heap.size heap'.size) _ (drawn + (drawn' - drawn)) _ _
      rw [← hh, ← hd]
      rfl
set_option maxHeartbeats 1600000 in
theorem item_Name.grows (a0 : ByteArray) (r : Bool) (w : World) (h : item_Name.f a0 = some r) :
    Calls Try.prog 47 #[.string a0] w fun e w' => e = .returned (.bool r) ∧ Gro w w' := by
  unfold item_Name.f at h
  have kc := fun (w : World) => Lib.run_convert_string_bytes (P := Try.prog) w 9 75 5 a0 Try.underlying9 Try.underlying75 Try.underlying5
  by_cases hz : a0.size = 0
  · rw [if_pos hz] at h
    obtain rfl := Option.some.inj h
    have e1 := toList_nil hz
    clear hz h
    go_enter Try.func47, Try.ntmps47
    go_wp2
    go_ret
    exact ⟨rfl, Gro.refl _⟩
  rw [if_neg hz] at h
  obtain ⟨e1, e2⟩ := toList_ne hz
  by_cases h64 : a0.size > 64
  · rw [if_pos h64] at h
    obtain rfl := Option.some.inj h
    have e3 : 64 < (a0.size : Int) := by omega
    clear hz h
    go_enter Try.func47, Try.ntmps47
    go_wp2
    go_ret
    exact ⟨rfl, Gro.refl _⟩
  rw [if_neg h64] at h
  have e3 : (a0.size : Int) ≤ 64 := by omega
  have e4 : 0 < a0.size := by omega
  have e5 := bt0 e4
  rw [e5] at h
  clear e5 hz
  by_cases hd : (48 : Int) ≤ ((a0[0]'e4).toNat : Int) ∧ ((a0[0]'e4).toNat : Int) ≤ (57 : Int)
  · rw [if_pos hd] at h
    obtain rfl := Option.some.inj h
    obtain ⟨d1, d2⟩ := hd
    clear h
    go_enter Try.func47, Try.ntmps47
    go_wp2
    go_ret
    exact ⟨rfl, Gro.refl _⟩
  rw [if_neg hd] at h
  have hr : Hid ((bytesOf a0).all nameB = r) := Lib.hid (Option.some.inj h)
  clear h
  have hd' : ((a0[0]'e4).toNat : Int) < (48 : Int) ∨ (57 : Int) < ((a0[0]'e4).toNat : Int) := by omega
  clear hd
  have hB := Gro.bytes w 5 a0
  have HC : Hid (∀ k, k < a0.size → (Lib.bytesWorld w 5 a0).cell? ⟨w.heap.size, k, none⟩ = some (.int .u8 (a0.data.toList.getD k 0).toNat)) := Lib.hid (fun k hk => Lib.bytesWorld_cell w 5 a0 k hk)
  rcases hd' with d1 | d1
  all_goals
    go_enter Try.func47, Try.ntmps47
    go_wp2
    go_loop [25, 4] (fun i c => ∃ k : Nat, k ≤ a0.size ∧ i = .int .i64 k ∧ Hid (((bytesOf a0).take k).all nameB = true)) (fun i _ => a0.size - (intOf i).toNat)
    case atStart => exact ⟨0, Nat.zero_le _, rfl, Lib.hid rfl⟩
    case round =>
      obtain ⟨k, hk, rfl, ha⟩ := hrel
      by_cases hlt : k < a0.size
      · have hc := HC.out k hlt
        have hb := byte_range a0 k
        generalize hg : ((a0.data.toList.getD k 0).toNat : Int) = c at hc hb
        have HG := Lib.hid hg
        clear hg
        go_wp2
        all_goals (try simp only [bne_iff_ne, ne_eq, bne_eq_false_iff_eq] at *)
        all_goals first
          | (go_round
             case rel => exact ⟨k + 1, by omega, by go_num, Lib.hid (take_succ_all a0 k hlt ha.out (by rw [HG.out]; first | exact nameB_yes (by omega) | exact nameB_no (by omega)))⟩
             case measure => simp [intOf]; omega)
          | (go_ret
             exact ⟨ret_bool (by rw [← hr.out]; exact (all_false a0 k hlt (by rw [HG.out]; first | exact nameB_yes (by omega) | exact nameB_no (by omega))).symm), hB⟩)
      · go_wp2
        go_ret
        exact ⟨ret_bool (by rw [← hr.out]; exact (all_done a0 k hlt ha.out).symm), hB⟩
set_option maxHeartbeats 1600000 in
theorem item_Split.grows (a0 : ByteArray) (r1 : ByteArray) (r2 : ByteArray) (r3 : Bool) (w : World) (h : item_Split.f a0 = some (r1, r2, r3)) :
    Calls Try.prog 39 #[.string a0] w fun e w' => e = .returned (.tuple #[.string r1, .string r2, .bool r3]) ∧ Gro w w' := by
  unfold item_Split.f at h
  obtain ⟨⟨t1, t2, t3⟩, h1, h2⟩ := Option.bind_eq_some_iff.1 h
  clear h
  have H1 := Lib.hid (fun W => strings_Cut.calls a0 (⟨#[61]⟩ : ByteArray) t1 t2 t3 W h1)
  simp only at h2
  cases t3 with
  | false =>
    rw [if_neg (by decide)] at h2
    simp only [Option.some.injEq, Prod.mk.injEq] at h2
    obtain ⟨rfl, rfl, rfl⟩ := h2
    go_enter Try.func39, Try.ntmps39
    go_wp2_with (first
      | (go_at_call 46; (with_reducible refine (H1.out _).mono ?_); rintro e w2 ⟨rfl, hd⟩; have HG := Gro.drawn0 hd; clear hd))
    go_ret3
    exact ⟨rfl, HG⟩
  | true =>
    rw [if_pos rfl] at h2
    obtain ⟨t4, h3, h4⟩ := Option.bind_eq_some_iff.1 h2
    clear h2
    have H3 := Lib.hid (fun W => item_Name.grows t1 t4 W h3)
    cases t4 with
    | false =>
      rw [if_neg (by decide)] at h4
      simp only [Option.some.injEq, Prod.mk.injEq] at h4
      obtain ⟨rfl, rfl, rfl⟩ := h4
      go_enter Try.func39, Try.ntmps39
      go_wp2_with (first
        | (go_at_call 46; (with_reducible refine (H1.out _).mono ?_); rintro e w2 ⟨rfl, hd⟩; have HG := Gro.drawn0 hd; clear hd)
        | (go_at_call 47; (with_reducible refine (H3.out _).mono ?_); rintro e w3 ⟨rfl, hd⟩; have HG2 := HG.trans hd; clear hd HG))
      go_ret3
      exact ⟨rfl, HG2⟩
    | true =>
      rw [if_pos rfl] at h4
      simp only [Option.some.injEq, Prod.mk.injEq] at h4
      obtain ⟨rfl, rfl, rfl⟩ := h4
      go_enter Try.func39, Try.ntmps39
      go_wp2_with (first
        | (go_at_call 46; (with_reducible refine (H1.out _).mono ?_); rintro e w2 ⟨rfl, hd⟩; have HG := Gro.drawn0 hd; clear hd)
        | (go_at_call 47; (with_reducible refine (H3.out _).mono ?_); rintro e w3 ⟨rfl, hd⟩; have HG2 := HG.trans hd; clear hd HG))
      go_ret3
      exact ⟨rfl, HG2⟩
theorem item_Field.grows (a0 : ByteArray) (r : ByteArray) (w : World) (h : item_Field.f a0 = some r) :
    Calls Try.prog 33 #[.string a0] w fun e w' => e = .returned (.string r) ∧ Gro w w' := by
  unfold item_Field.f at h
  obtain ⟨⟨t1, t2, t3⟩, h1, h2⟩ := Option.bind_eq_some_iff.1 h
  clear h
  obtain rfl : t1 = r := Option.some.inj h2
  have H1 := Lib.hid (fun W => item_Split.grows a0 t1 t2 t3 W h1)
  clear h1 h2
  go_enter Try.func33, Try.ntmps33
  go_wp2_with (first
    | (go_at_call 39; (with_reducible refine (H1.out _).mono ?_); rintro e w2 ⟨rfl, hd⟩; have HG := Lib.hid hd; clear hd))
  go_ret
  exact ⟨rfl, HG.out⟩
def orI (x y : Int) : Int := if x ≠ 0 then x else y
theorem cmp_Or.calls (x y : Int) (g c : Nat) (w : World) (h0 : w.cell? ⟨g, 0, none⟩ = some (.int .i64 x)) (h1 : w.cell? ⟨g, 1, none⟩ = some (.int .i64 y)) :
    Calls Try.prog 42 #[.slice (some ⟨g, 0, none⟩) 2 c] w fun e w' => e = .returned (.int .i64 (orI x y)) ∧ w' = w := by
  unfold orI
  by_cases hx : x = 0
  · subst hx
    rw [if_neg (by decide)]
    by_cases hy : y = 0
    · subst hy
      go_enter Try.func42, Try.ntmps42
      go_wp2
      refine wp_loop_rounds 3 ?_
      repeat any_goals (rw [rounds_succ]; go_wp2)
      go_ret
      exact ⟨rfl, rfl⟩
    · have hyb : (y != 0) = true := bne_iff_ne.2 hy
      go_enter Try.func42, Try.ntmps42
      go_wp2
      refine wp_loop_rounds 2 ?_
      repeat any_goals (rw [rounds_succ]; go_wp2)
      go_ret
      exact ⟨rfl, rfl⟩
  · rw [if_pos hx]
    have hxb : (x != 0) = true := bne_iff_ne.2 hx
    go_enter Try.func42, Try.ntmps42
    go_wp2
    refine wp_loop_rounds 1 ?_
    repeat any_goals (rw [rounds_succ]; go_wp2)
    go_ret
    exact ⟨rfl, rfl⟩
def cmpS (a b : ByteArray) : Int := Lib.compareBytes a.data.toList b.data.toList
def fieldV (x : ByteArray) : ByteArray := (item_Field.f x).getD ByteArray.empty
def cmpF (a b : ByteArray) : Int := orI (cmpS (fieldV a) (fieldV b)) (cmpS a b)
theorem sorted_closure (a b fa fb : ByteArray) (w : World) (ha : item_Field.f a = some fa) (hb : item_Field.f b = some fb) :
    Calls Try.prog 41 #[.string a, .string b] w fun e w' => e = .returned (.int .i64 (orI (cmpS fa fb) (cmpS a b))) ∧ Gro w w' := by
  have HA := Lib.hid (fun W => item_Field.grows a fa W ha)
  have HB := Lib.hid (fun W => item_Field.grows b fb W hb)
  clear ha hb
  have HC1 := Lib.hid (fun W => Try.strings_Compare fa fb W)
  have HC2 := Lib.hid (fun W => Try.strings_Compare a b W)
  obtain ⟨x, hx⟩ : ∃ x, Lib.compareBytes fa.data.toList fb.data.toList = x := ⟨_, rfl⟩
  obtain ⟨y, hy⟩ : ∃ y, Lib.compareBytes a.data.toList b.data.toList = y := ⟨_, rfl⟩
  unfold cmpS
  rw [hx] at HC1
  rw [hy] at HC2
  rw [hx, hy]
  clear hx hy
  go_enter Try.func41, Try.ntmps41
  go_wp2_with (first
    | (go_at_call 33; (with_reducible refine (HA.out _).mono ?_); rintro e w2 ⟨rfl, hd⟩; have HG := Lib.hid hd; clear hd HA)
    | (go_at_call 33; (with_reducible refine (HB.out _).mono ?_); rintro e w3 ⟨rfl, hd⟩; have HG2 := Lib.hid (HG.out.trans hd); clear hd HB)
    | (go_at_call 43; (with_reducible refine (HC1.out _).mono ?_); rintro e w4 ⟨rfl, rfl⟩; clear HC1)
    | (go_at_call 43; (with_reducible refine (HC2.out _).mono ?_); rintro e w5 ⟨rfl, rfl⟩; clear HC2)
    | (go_at_call 42; refine (cmp_Or.calls x y _ _ _ (by go_simp) (by go_simp)).mono ?_; rintro e w6 ⟨rfl, rfl⟩))
  go_ret
  exact ⟨rfl, HG2.out.trans (Gro.alloc _ _)⟩
/-! ### the order -/
theorem cmp_lt : ∀ x y : List UInt8, Lib.compareBytes x y < 0 ↔ x < y
  | [], [] => by simp [Lib.compareBytes]
  | [], _ :: _ => by simp [Lib.compareBytes]
  | _ :: _, [] => by simp [Lib.compareBytes]
  | a :: x, b :: y => by
    rw [Lib.compareBytes, List.cons_lt_cons_iff]
    by_cases h1 : a < b
    · rw [if_pos h1]
      simp [h1]
    · rw [if_neg h1]
      by_cases h2 : b < a
      · rw [if_pos h2]
        have h3 : a ≠ b := fun e => by rw [e] at h2; exact UInt8.lt_irrefl b h2
        simp [h1, h3]
      · rw [if_neg h2, cmp_lt x y]
        have h3 : a = b := UInt8.le_antisymm (UInt8.not_lt.1 h2) (UInt8.not_lt.1 h1)
        simp [h3]
theorem cmp_eq0 : ∀ x y : List UInt8, Lib.compareBytes x y = 0 ↔ x = y
  | [], [] => by simp [Lib.compareBytes]
  | [], _ :: _ => by simp [Lib.compareBytes]
  | _ :: _, [] => by simp [Lib.compareBytes]
  | a :: x, b :: y => by
    rw [Lib.compareBytes]
    by_cases h1 : a < b
    · rw [if_pos h1]
      have h3 : a ≠ b := fun e => by rw [e] at h1; exact UInt8.lt_irrefl b h1
      simp [h3]
    · rw [if_neg h1]
      by_cases h2 : b < a
      · rw [if_pos h2]
        have h3 : a ≠ b := fun e => by rw [e] at h2; exact UInt8.lt_irrefl b h2
        simp [h3]
      · rw [if_neg h2, cmp_eq0 x y]
        have h3 : a = b := UInt8.le_antisymm (UInt8.not_lt.1 h2) (UInt8.not_lt.1 h1)
        simp [h3]
/-- By the field, then by the text. -/
def ltF (a b : ByteArray) : Prop := (fieldV a).data.toList < (fieldV b).data.toList ∨ ((fieldV a).data.toList = (fieldV b).data.toList ∧ a.data.toList < b.data.toList)
theorem cmpF_lt (a b : ByteArray) : cmpF a b < 0 ↔ ltF a b := by
  unfold cmpF orI ltF cmpS
  by_cases h : Lib.compareBytes (fieldV a).data.toList (fieldV b).data.toList = 0
  · rw [if_neg (by simpa using h), cmp_lt]
    have he := (cmp_eq0 _ _).1 h
    rw [he]
    constructor
    · exact fun h => .inr ⟨rfl, h⟩
    · rintro (h | h)
      · exact absurd h (List.lt_irrefl _)
      · exact h.2
  · rw [if_pos h, cmp_lt]
    constructor
    · exact .inl
    · rintro (h2 | h2)
      · exact h2
      · exact absurd ((cmp_eq0 _ _).2 h2.1) h
theorem ltF_trans {a b c : ByteArray} (h : ltF a b) (k : ltF b c) : ltF a c := by
  unfold ltF at *
  rcases h with h | ⟨h1, h2⟩
  · rcases k with k | ⟨k1, k2⟩
    · exact .inl (List.lt_trans h k)
    · rw [k1] at h
      exact .inl h
  · rcases k with k | ⟨k1, k2⟩
    · rw [h1]
      exact .inl k
    · exact .inr ⟨h1.trans k1, List.lt_trans h2 k2⟩
theorem ltF_irrefl (a : ByteArray) : ¬ ltF a a := by
  rintro (h | ⟨_, h⟩)
  · exact List.lt_irrefl _ h
  · exact List.lt_irrefl _ h
theorem ltF_total {a b : ByteArray} (h : ¬ ltF a b) (k : ¬ ltF b a) : a = b := by
  unfold ltF at *
  have e1 : (fieldV a).data.toList = (fieldV b).data.toList := List.le_antisymm (List.not_lt.1 fun e => k (.inl e)) (List.not_lt.1 fun e => h (.inl e))
  have e2 : a.data.toList = b.data.toList := List.le_antisymm (List.not_lt.1 fun e => k (.inr ⟨e1.symm, e⟩)) (List.not_lt.1 fun e => h (.inr ⟨e1, e⟩))
  cases a
  cases b
  exact congrArg ByteArray.mk (Array.toList_inj.1 e2)
theorem ltF_ntrans {a b c : ByteArray} (h : ¬ ltF a b) (k : ¬ ltF b c) : ¬ ltF a c := fun e => by
  by_cases h2 : ltF b a
  · exact k (ltF_trans h2 e)
  · rw [ltF_total h h2] at e
    exact k e
abbrev FTx := {s : ByteArray // (item_Field.f s).isSome = true}
instance : Inhabited FTx := ⟨⟨⟨#[]⟩, by decide +kernel⟩⟩
def encF (s : FTx) : Value := .string s.1
def cmpT (x y : FTx) : Int := cmpF x.1 y.1
theorem ltOf_iff (x y : FTx) : Go.Proofs.ltOf cmpT x y = true ↔ ltF x.1 y.1 := by
  unfold Go.Proofs.ltOf cmpT
  rw [decide_eq_true_iff]
  exact cmpF_lt _ _
theorem ltOf_no (x y : FTx) : Go.Proofs.ltOf cmpT x y = false ↔ ¬ ltF x.1 y.1 := by
  rw [← ltOf_iff]
  simp
theorem swoT : Go.Sort.SWO (Go.Proofs.ltOf cmpT) where
  irrefl x := (ltOf_no x x).2 (ltF_irrefl _)
  trans x y z h k := (ltOf_iff x z).2 (ltF_trans ((ltOf_iff x y).1 h) ((ltOf_iff y z).1 k))
  ntrans x y z h k := (ltOf_no x z).2 (ltF_ntrans ((ltOf_no x y).1 h) ((ltOf_no y z).1 k))
theorem totT (x y : FTx) (h : Go.Proofs.ltOf cmpT x y = false) (k : Go.Proofs.ltOf cmpT y x = false) : x = y := Subtype.ext (ltF_total ((ltOf_no x y).1 h) ((ltOf_no y x).1 k))
/-! ### slices.SortFunc -/
theorem putCells_map {α β : Type} [Inhabited α] [Inhabited β] (e1 : α → Value) (e2 : β → Value) (g : α → β) (he : ∀ x, e2 (g x) = e1 x) (off : Nat) (d : Array α) (c : Array Value) : Go.Sort.putCells e1 off d c = Go.Sort.putCells e2 off (d.map g) c := by
  unfold Go.Sort.putCells
  congr 1
  funext k x
  rw [Array.size_map]
  by_cases h : off ≤ k ∧ k < off + d.size
  · rw [if_pos h, if_pos h]
    have h2 : k - off < d.size := by omega
    rw [getElem!_pos d (k - off) h2, getElem!_pos (d.map g) (k - off) (by rw [Array.size_map]; exact h2), Array.getElem_map, he]
  · rw [if_neg h, if_neg h]
theorem putRow_map {α β : Type} [Inhabited α] [Inhabited β] (e1 : α → Value) (e2 : β → Value) (g : α → β) (he : ∀ x, e2 (g x) = e1 x) (w : World) (blk off : Nat) (d : Array α) : Go.Sort.putRow e1 w blk off d = Go.Sort.putRow e2 w blk off (d.map g) := by
  unfold Go.Sort.putRow
  congr 1
  funext c
  exact putCells_map e1 e2 g he off d c
def liftF (l : List ByteArray) : List FTx := l.filterMap fun x => if h : (item_Field.f x).isSome = true then some ⟨x, h⟩ else none
theorem liftF_val : ∀ l : List ByteArray, (∀ x ∈ l, (item_Field.f x).isSome = true) → (liftF l).map (fun x : FTx => x.1) = l
  | [], _ => rfl
  | x :: r, h => by
    have ih := liftF_val r (fun y hy => h y (List.mem_cons_of_mem _ hy))
    have hx := h x (by simp)
    have e : liftF (x :: r) = ⟨x, hx⟩ :: liftF r := by
      unfold liftF
      rw [List.filterMap_cons, dif_pos hx]
    rw [e, List.map_cons, ih]
def srtF (l : List ByteArray) : List ByteArray := ((liftF l).mergeSort fun x y => !(Go.Proofs.ltOf cmpT) y x).map (fun x : FTx => x.1)
theorem liftF_len (l : List ByteArray) (h : ∀ x ∈ l, (item_Field.f x).isSome = true) : (liftF l).length = l.length := by
  have := congrArg List.length (liftF_val l h)
  rwa [List.length_map] at this
theorem srtF_len (l : List ByteArray) (h : ∀ x ∈ l, (item_Field.f x).isSome = true) : (srtF l).length = l.length := by
  unfold srtF
  rw [List.length_map, List.length_mergeSort, liftF_len l h]
theorem sfunc_below {w0 w w' : World} {g : Nat} (hB : Below w0.heap.size w0 w) (h : w.grownBy w' (some g)) (hg : w0.heap.size ≤ g) : Below w0.heap.size w0 w' :=
  pw_below_grown hB (some g) hB.size h (fun k e => by injection e with e; omega)
theorem slices_SortFunc_own (P0_ : Nat → Prop) (u : Value) (l0 : List ByteArray) (w0 w : World) (hB : Below w0.heap.size w0 w) (ho0 : Kd.R Kd.string 9 w w0.heap.size P0_ u l0) (hF : ∀ x ∈ l0, (item_Field.f x).isSome = true) (hz : l0.length < 4611686018427387904) :
    Calls Try.prog 40 #[u, .func (.func 41) #[] #[]] w fun e w' => e = .returned (.tuple #[]) ∧ Kd.R Kd.string 9 w' w0.heap.size (fun k_ => (P0_ k_ ∨ w.heap.size ≤ k_)) u (srtF l0) ∧ Below w0.heap.size w0 w' := by
  have ho := Kd.own_of_R ho0
  rcases ho.2 with ⟨rfl, hn⟩ | ⟨g, cap, cur, rfl, hbase, hb, h1, h2, h3, h4⟩
  · obtain rfl := List.eq_nil_of_length_eq_zero hn
    refine (Try.slices_SortFunc_text_none none 0 _ w).mono ?_
    rintro e w' ⟨rfl, rfl⟩
    refine ⟨rfl, ?_, hB⟩
    have e : srtF [] = [] := by simp [srtF, liftF]
    rw [e]
    exact Kd.R_nil _ _ _ _ _
  · have hlt : g < w.heap.size := (Array.getElem?_eq_some_iff.1 hb).1
    have hHs : Go.Sort.Holds encStr w g 0 (l0.map (·.data.toList)).toArray := holds_of_block hb (by rw [List.length_map, Lib.map_encStr]; simpa [encs] using h4)
    have hd : (liftF l0).toArray.map (fun x : FTx => x.1.data.toList) = (l0.map (·.data.toList)).toArray := by
      rw [List.map_toArray]
      congr 1
      conv => rhs; rw [← liftF_val l0 hF]
      rw [List.map_map]
      rfl
    have hsz : (liftF l0).toArray.size = l0.length := by rw [List.size_toArray, liftF_len l0 hF]
    have hH : Go.Sort.Holds encF w g 0 (liftF l0).toArray := by
      intro j hj
      have hk := hHs j (by rw [← hd, Array.size_map]; exact hj)
      refine ⟨?_, hk.2⟩
      rw [hk.1, ← hd, getElem!_pos (liftF l0).toArray j hj, getElem!_pos ((liftF l0).toArray.map fun x : FTx => x.1.data.toList) j (by rw [Array.size_map]; exact hj), Array.getElem_map]
      rfl
    have key := Try.slices_SortFunc_text encF (fun _ => rfl) cmpT swoT totT 41 #[] g 0 cap (liftF l0).toArray w (enters_of Try.func41 (by kernel_rfl) rfl) (fun m os dk hs x y => by
      obtain ⟨fx, hx⟩ := Option.isSome_iff_exists.1 x.2
      obtain ⟨fy, hy⟩ := Option.isSome_iff_exists.1 y.2
      refine (sorted_closure x.1 y.1 fx fy _ hx hy).mono (fun e w' hq => ⟨?_, hq.2.grow⟩)
      rw [hq.1]
      unfold cmpT cmpF fieldV
      rw [hx, hy]
      rfl) hH hlt (by rw [hsz]; exact hz)
    rw [hsz] at key
    refine key.mono ?_
    rintro e w' ⟨rfl, n, os, rfl⟩
    have ew : Go.Proofs.sortWorld encF w g 0 n ((liftF l0).toArray.toList.mergeSort fun x y => !(Go.Proofs.ltOf cmpT) y x).toArray os = Go.Sort.grow (Go.Sort.putRow encStr (Go.Sort.ahead w n) g 0 ((srtF l0).map (·.data.toList)).toArray) os := by
      unfold Go.Proofs.sortWorld
      rw [putRow_map encF encStr (fun x : FTx => x.1.data.toList) (fun x => rfl), List.map_toArray]
      unfold srtF
      rw [List.map_map]
      rfl
    rw [ew]
    have hg := grownBy_sorted (w := w) (g := g) (n := n) (os := os) ((srtF l0).map (·.data.toList)).toArray
    have hown := ownsRow_sorted (w := w) (n := n) (os := os) (ss := l0.map (·.data.toList)) (ts := (srtF l0).map (·.data.toList)) (by rw [List.length_map, List.length_map, srtF_len l0 hF]) hbase hb (by rw [List.length_map]; exact h1) h2 h3
    rw [List.length_map] at hown
    refine ⟨rfl, Kd.R_of_own ?_ ?_, sfunc_below hB hg hbase⟩
    · have e2 : encs Value.string (srtF l0) = ((srtF l0).map (·.data.toList)).map encStr := by
        unfold encs
        rw [List.map_map]
        rfl
      rw [e2, srtF_len l0 hF]
      exact hown
    · intro k hk
      exact .inl (ho0.1 k hk)
/-! ### item.Sorted -/
def item_Sorted.f (l0 : List ByteArray) : Option (List ByteArray) := if l0.length * 16 ≤ 140737488355328 ∧ ∀ x ∈ l0, (item_Field.f x).isSome = true then some (compB (srtF l0)) else none
set_option maxHeartbeats 1600000 in
theorem item_Sorted.calls (A0 : Option Addr) (c0 : Nat) (l0 : List ByteArray) (r : List ByteArray) (w : World) (hr0 : Kd.C Kd.string w A0 l0.length l0) (hc0 : l0.length ≤ c0) (h : item_Sorted.f l0 = some r) :
    Calls Try.prog 34 #[.slice A0 l0.length c0] w fun e w' => ∃ v0_ : Value, e = .returned (v0_) ∧ Kd.R Kd.string 9 w' w.heap.size (fun _ => True) v0_ r ∧ Below w.heap.size w w' := by
  unfold item_Sorted.f at h
  by_cases hz : l0.length * 16 ≤ 140737488355328 ∧ ∀ x ∈ l0, (item_Field.f x).isSome = true
  case neg => rw [if_neg hz] at h; cases h
  rw [if_pos hz] at h
  obtain rfl := Option.some.inj h
  have HC := Lib.hid (slices_Clone_string_string.calls A0 c0 l0 l0 w hr0 hc0 (by unfold slices_Clone_string_string.f; rw [if_pos hz.1]))
  have HF := Lib.hid hz.2
  have hzl : l0.length < 4611686018427387904 := by omega
  clear h hz hr0 hc0
  go_enter Try.func34, Try.ntmps34
  go_wp2_with (first
    | (go_at_call 30; (with_reducible refine HC.out.mono ?_); rintro e w2 ⟨v, rfl, hR, hB⟩; have HR := Lib.hid hR; have HB := Lib.hid hB; clear hR hB)
    | (go_at_call 40; refine (slices_SortFunc_own _ _ l0 w _ HB.out HR.out HF.out hzl).mono ?_; rintro e w3 ⟨rfl, hR, hB⟩; have HR3 := Lib.hid hR; have HB3 := Lib.hid hB; clear hR hB)
    | (go_at_call 44; refine (slices_Compact_string_string.calls _ _ (srtF l0) (compB (srtF l0)) w _ HB3.out HR3.out rfl).mono ?_; rintro e w4 ⟨v4, rfl, hR, hB, _⟩; have HR4 := Lib.hid hR; have HB4 := Lib.hid hB; clear hR hB))
  go_ret
  exact ⟨_, rfl, Kd.R_mono HR4.out (fun _ _ => trivial), HB4.out⟩

-- GIVEN rounds=0 making=1 needs=logbook/expr.New,logbook/item.Field,logbook/item.Sorted
/-! ### (*expr.Expr).Match: by hand -/
/-- the last choice of the last level, laid open -/
structure ExO (w : World) (B g : Nat) (ok : Nat → Prop) (L : List (List (List ByteArray))) (n : Int) (gv cv gl cl : Nat) (vc : Value) (l : List (List ByteArray)) (c : List ByteArray) (okl okc : Nat → Prop) : Prop where
  blk : w.heap[g]? = some (.cells #[.slice (some ⟨gv, 0, none⟩) L.length cv, .int .i64 n] 49 (0, 0))
  cellL : w.cell? ⟨gv, L.length - 1, none⟩ = some (.slice (some ⟨gl, 0, none⟩) l.length cl)
  cellC : w.cell? ⟨gl, l.length - 1, none⟩ = some vc
  frL : w.frozen? ⟨gv, L.length - 1, none⟩ = false
  frC : w.frozen? ⟨gl, l.length - 1, none⟩ = false
  hl : Kd.H dLv 23 w B ok (.slice (some ⟨gv, 0, none⟩) L.length cv) L ((L.length - 1 : Nat) : Int) okl [.slice (some ⟨gl, 0, none⟩) l.length cl]
  hc : Kd.H dCh 31 w B okl (.slice (some ⟨gl, 0, none⟩) l.length cl) l ((l.length - 1 : Nat) : Int) okc [vc]
  row : Kd.R Kd.string 9 w B okc vc c
  okgl : okl gl
  sub : ∀ k, okl k → ok k
  tyl : ∃ cells, w.heap[gl]? = some (.cells cells 31 (0, 0))
  tyv : ∃ cells, w.heap[gv]? = some (.cells cells 23 (0, 0))
  okgv : ok gv
  basl : B ≤ gl
  mxl : l.length ≤ maxLen
  ne : gl ≠ g
  basv : B ≤ gv
  lo : B ≤ g
theorem S_max {α : Type} {d : Kd α} {e : Nat} {w : World} {base : Nat} {ok : Nat → Prop} {v : Value} {xs : List α} (h : Kd.S d e w base ok v xs) : xs.length ≤ maxLen := by
  obtain ⟨inner, ho⟩ := Kd.S_own h
  rcases ho.2 with ⟨_, h0⟩ | ⟨g, cap, cur, _, _, _, h1, h2, _⟩ <;> omega
theorem ExS.open_ {w : World} {B g : Nat} {ok : Nat → Prop} {L : List (List (List ByteArray))} {n : Int} (h : ExS w B g ok L n) {l : List (List ByteArray)} {c : List ByteArray} (hL : 0 < L.length) (hl : L.getD (L.length - 1) [] = l) (hl0 : 0 < l.length) (hc : l.getD (l.length - 1) [] = c) :
    ∃ gv cv gl cl vc okl okc, ExO w B g ok L n gv cv gl cl vc l c okl okc := by
  obtain ⟨v, hv, ho, hg⟩ := h
  obtain ⟨gv, cv, rfl, b1, b2, t1⟩ := Kd.S_form ho hL
  have okv : ok gv := ((Kd.S_R ho).1 gv (by simp [Value.ownBlock]))
  obtain ⟨okl, cL, e1, m1, c1, f1, o1, h1⟩ := Kd.S_elem ho [] ((L.length - 1 : Nat) : Int) (by omega) (by omega)
  rw [Int.toNat_natCast, hl] at m1
  obtain ⟨vl, rfl, s1⟩ := m1
  obtain ⟨gl, cl, rfl, b3, b4, t2⟩ := Kd.S_form s1 hl0
  have okgl : okl gl := ((Kd.S_R s1).1 gl (by simp [Value.ownBlock]))
  obtain ⟨okc, cC, e2, m2, c2, f2, o2, h2⟩ := Kd.S_elem s1 [] ((l.length - 1 : Nat) : Int) (by omega) (by omega)
  rw [Int.toNat_natCast, hc] at m2
  obtain ⟨vc, rfl, r1⟩ := m2
  have z1 := c1 0 _ rfl
  have z2 := c2 0 _ rfl
  have y1 := f1 0
  have y2 := f2 0
  rw [Int.toNat_natCast] at z1 z2 y1 y2
  have u1 : (L.length - 1) * dLv.sz + 0 = L.length - 1 := Nat.mul_one _
  have u2 : (l.length - 1) * dCh.sz + 0 = l.length - 1 := Nat.mul_one _
  rw [u1] at z1 y1
  rw [u2] at z2 y2
  exact ⟨gv, cv, gl, cl, vc, okl, okc, ⟨hv, z1, z2, y1, y2, h1, h2, r1, okgl, fun k hk => (o1 k hk).1, t2, t1, okv, b3, S_max s1, (fun he => by
    subst he
    obtain ⟨cs, hcs⟩ := t2
    rw [hv] at hcs
    injection hcs with hcs
    injection hcs with _ hcs
    exact absurd hcs (by decide)), b1, hg⟩⟩
/-- the choice has got another one: its new row is v2, of blocks that are new at w -/
theorem ExO.put {w w1 w2 : World} {B g : Nat} {ok : Nat → Prop} {L : List (List (List ByteArray))} {n : Int} {gv cv gl cl : Nat} {vc : Value} {l : List (List ByteArray)} {c : List ByteArray} {okl okc : Nat → Prop}
    (h : ExO w B g ok L n gv cv gl cl vc l c okl okc) (hfr : ∀ k, w.heap.size ≤ k → ok k) (hl0 : 0 < l.length) (hL : 0 < L.length) (hBw : B ≤ w.heap.size)
    (hg : w.grownBy w1 vc.ownBlock) (hb : Below w1.heap.size w1 w2) {v2 : Value} {c2 : List ByteArray} (hv2 : Kd.R Kd.string 9 w2 w1.heap.size (fun _ => True) v2 c2) (m : Int) :
    ExS ((w2.setCell ⟨gl, l.length - 1, none⟩ v2).setCell ⟨g, 1, none⟩ (.int .i64 m)) B g ok (L.set (L.length - 1) (l.set (l.length - 1) c2)) m := by
  have hvo : ∀ k, vc.ownBlock = some k → okc k := h.row.1
  have hcl : ∀ k, okc k → okl k := h.hc.1
  -- the hole of the outer row, wide enough
  have q1 := Kd.H_widen h.hl
  have q2 := Kd.H_grown q1 hg (fun k hk => Or.inl (hcl k (hvo k hk)))
  have q3 := Kd.H_below q2 hb
  have p1 := Kd.H_widen (Kd.H_mono h.hc (ok' := fun k => okl k ∨ ok k ∧ w.heap.size ≤ k) (fun k hk => Or.inl hk))
  have p2 := Kd.H_grown p1 hg (fun k hk => Or.inl (hvo k hk))
  have p3 := Kd.H_below p2 hb
  obtain ⟨p4, p5⟩ := Kd.H_seg p3 (by omega) (by omega) (seg := [v2]) (j := 0) (by show 0 + 1 ≤ 1; omega) (fun q hq => by
    rw [List.mem_singleton.1 hq]
    exact (Kd.R_val hv2).2)
  have u2 : (((l.length - 1 : Nat) : Int).toNat) * dCh.sz + 0 = l.length - 1 := by rw [Int.toNat_natCast]; exact Nat.mul_one _
  rw [u2] at p4 p5
  have e5 : w2.setCells gl (l.length - 1) [v2] = w2.setCell ⟨gl, l.length - 1, none⟩ v2 := rfl
  rw [e5] at p4 p5
  have z2 : w1.heap.size ≤ w2.heap.size := hb.size
  have hr3 : Kd.R Kd.string 9 (w2.setCell ⟨gl, l.length - 1, none⟩ v2) B (fun k => w.heap.size ≤ k) v2 c2 := by
    have a1 := Kd.R_lower (Kd.R_mono (Kd.R_bound hv2) (ok' := fun k => w1.heap.size ≤ k) (fun k hk => hk.2.1)) (base' := B) (Nat.le_trans hBw hg.size)
    have a2 := Kd.R_far (p := ⟨gl, l.length - 1, none⟩) a1 (fun k hk => by
      obtain ⟨cells, hc⟩ := h.tyl
      have := blk_lt hc
      have := hg.size
      show k ≠ gl
      omega) v2
    exact Kd.R_mono a2 (fun k hk => Nat.le_trans hg.size hk)
  have p6 := Kd.H_back p4 (x' := c2) (okp := fun k => w.heap.size ≤ k) ⟨v2, rfl, hr3⟩ (fun k hk => Or.inr ⟨Or.inr ⟨hfr k hk, hk⟩, hk⟩)
  rw [Int.toNat_natCast] at p6
  have q4 := Kd.H_grown q3 p5 (fun k hk => by
    injection hk with hk
    subst hk
    exact Or.inl h.okgl)
  have q5 := Kd.H_back q4 (x' := l.set (l.length - 1) c2) (okp := fun k => okl k ∨ ok k ∧ w.heap.size ≤ k) ⟨_, rfl, by
    exact p6⟩ (fun k hk => hk)
  rw [Int.toNat_natCast] at q5
  have b1 := blk_grown h.blk hg (Kd.R_ne h.row h.blk (by decide))
  have b2 := blk_below b1 hb
  have b3 := blk_grown b2 p5 (fun he => by
    injection he with he
    obtain ⟨cells, hc⟩ := h.tyl
    rw [← he, h.blk] at hc
    injection hc with hc
    injection hc with _ hc
    exact absurd hc (by decide))
  refine ⟨_, blk_put b3 1 _ rfl, ?_, h.lo⟩
  have := Kd.S_set q5 b3 (by decide) 1 (.int .i64 m)
  exact this
theorem ExO.kept {w w1 w2 : World} {B g : Nat} {ok : Nat → Prop} {L : List (List (List ByteArray))} {n : Int} {gv cv gl cl : Nat} {vc : Value} {l : List (List ByteArray)} {c : List ByteArray} {okl okc : Nat → Prop}
    (h : ExO w B g ok L n gv cv gl cl vc l c okl okc) (hg : w.grownBy w1 vc.ownBlock) (hb : Below w1.heap.size w1 w2) (u v2 : Value) :
    XKeep (fun k => ok k ∧ B ≤ k) g w ((w2.setCell ⟨gl, l.length - 1, none⟩ v2).setCell ⟨g, 1, none⟩ u) := by
  have a1 : XKeep (fun k => ok k ∧ B ≤ k) g w w1 := XKeep.grown hg (fun k hk _ => ⟨⟨h.sub k (h.hc.1 k (h.row.1 k hk)), Kd.R_base h.row k hk⟩, by
    obtain ⟨cs, hcs⟩ := Kd.R_typed h.row k hk
    exact ⟨cs, _, hcs, Or.inl rfl⟩⟩)
  obtain ⟨cl_, hcl⟩ := h.tyl
  have a2 : XKeep (fun k => ok k ∧ B ≤ k) g w1 w2 := XKeep.of_below hb
  have b1 := blk_below (blk_grown hcl hg (Kd.R_ne h.row hcl (by decide))) hb
  have a3 : XKeep (fun k => ok k ∧ B ≤ k) g w2 (w2.setCell ⟨gl, l.length - 1, none⟩ v2) :=
    ⟨rfl, rfl, rfl, by simp [World.setCell], fun i _ _ hx => Below.heap_setCell w2 ⟨gl, l.length - 1, none⟩ v2 i (fun he => by
      have he : i = gl := he
      subst he
      rcases hx with hx | ⟨cs', t', h4, h5, h6, h7⟩
      · exact hx ⟨h.sub _ h.okgl, h.basl⟩
      · rw [b1] at h4
        injection h4 with h4
        injection h4 with _ h4
        exact h6 h4.symm)⟩
  exact a1.trans (a2.trans (a3.trans XKeep.own))
theorem ExO.after {w w1 w2 : World} {B g : Nat} {ok : Nat → Prop} {L : List (List (List ByteArray))} {n : Int} {gv cv gl cl : Nat} {vc : Value} {l : List (List ByteArray)} {c : List ByteArray} {okl okc : Nat → Prop}
    (h : ExO w B g ok L n gv cv gl cl vc l c okl okc) (hg : w.grownBy w1 vc.ownBlock) (hb : Below w1.heap.size w1 w2) :
    w2.cell? ⟨gl, l.length - 1, none⟩ = some vc ∧ w2.frozen? ⟨gl, l.length - 1, none⟩ = false ∧ w2.cell? ⟨g, 1, none⟩ = some (.int .i64 n) ∧ w2.frozen? ⟨g, 1, none⟩ = false := by
  obtain ⟨cs_, hc_⟩ := h.tyl
  have hgl : w2.heap[gl]? = w.heap[gl]? := (blk_below (blk_grown hc_ hg (Kd.R_ne h.row hc_ (by decide))) hb).trans hc_.symm
  have hg5 := blk_below (blk_grown h.blk hg (Kd.R_ne h.row h.blk (by decide))) hb
  have k6 := blk_cell hg5 1
  simp at k6
  exact ⟨(World.cell?_of_block (a := ⟨gl, l.length - 1, none⟩) hgl).trans h.cellC, (World.frozen?_of_block (a := ⟨gl, l.length - 1, none⟩) hgl).trans h.frC, k6, blk_frozen hg5 1⟩
theorem drewN_grown {w w1 : World} {m : Nat} {row : Option Nat} (h : (w.drewN m).grownBy w1 row) : w.grownBy w1 row := ⟨h.os, h.tape, h.output, h.size, h.block⟩
theorem strInfo : (Try.prog.info? 9).map (fun i => (i.zero, i.size, i.bytes)) = some (some (.string ⟨#[]⟩), 1, 16) := by kernel_rfl
/-- what Match answers: the levels, how many terms, the error's number -/
def expr_Expr_Match.f (s : ByteArray) (L : List (List (List ByteArray))) (n : Int) : Option (List (List (List ByteArray)) × Int × Int) :=
  if L.length = 0 then some (L, n, 3) else if (s.size : Int) > 1024 then some (L, n, 22) else (item_Field.f s).bind fun fd => if fd.size = 0 then some (L, n, 23) else if n ≥ 16 then some (L, n, 29) else
    if (L.getD (L.length - 1) []).length = 0 then none else if (((L.getD (L.length - 1) []).getD ((L.getD (L.length - 1) []).length - 1) []).length + 1) * 16 ≤ 140737488355328 then
      (item_Sorted.f ((L.getD (L.length - 1) []).getD ((L.getD (L.length - 1) []).length - 1) [] ++ [s])).bind fun c2 => some (L.set (L.length - 1) ((L.getD (L.length - 1) []).set ((L.getD (L.length - 1) []).length - 1) c2), wrap64 (n + 1), 0) else none
set_option maxHeartbeats 3200000 in
theorem expr_Expr_Match.calls (s : ByteArray) (L : List (List (List ByteArray))) (n : Int) (B g : Nat) (ok : Nat → Prop) (L2 : List (List (List ByteArray))) (n2 r : Int) (w : World) (hx : ExS w B g ok L n) (hfr : ∀ k, w.heap.size ≤ k → ok k) (h : expr_Expr_Match.f s L n = some (L2, n2, r)) :
    Calls Try.prog 18 #[.pointer (some ⟨g, 0, none⟩), .string s] w fun e w' => e = .returned (.int .i64 r) ∧ ExS w' B g ok L2 n2 ∧ XKeep (fun k => ok k ∧ B ≤ k) g w w' := by
  unfold expr_Expr_Match.f at h
  obtain ⟨v, hv, ho, hg⟩ := id hx
  obtain ⟨A, cv, rfl⟩ := Kd.S_slice ho
  have hm := S_max ho
  have HX := Lib.hid hx
  have HV := Lib.hid hv
  have k0 := blk_cell hv 0
  have k1 := blk_cell hv 1
  simp at k0 k1
  by_cases h0 : L.length = 0
  · rw [if_pos h0] at h
    cases h
    rw [h0] at k0
    clear hx hv ho hg hm
    go_enter Try.func18, Try.ntmps18
    go_wp2
    repeat (go_quiet (fail); try go_wp2)
    go_ret
    exact ⟨rfl, HX.out, XKeep.refl _ _ _⟩
  rw [if_neg h0] at h
  obtain ⟨i, hi⟩ : ∃ i, L.length = i + 1 := ⟨L.length - 1, by omega⟩
  have e0 : ¬ ((L.length : Int) = 0) := by omega
  by_cases h1 : (s.size : Int) > 1024
  · rw [if_pos h1] at h
    cases h
    clear hx hv ho hg hm
    go_enter Try.func18, Try.ntmps18
    go_wp2
    repeat (go_quiet (fail); try go_wp2)
    go_ret
    exact ⟨rfl, HX.out, XKeep.refl _ _ _⟩
  rw [if_neg h1] at h
  cases hf : item_Field.f s with
  | none => rw [hf] at h; cases h
  | some fd =>
  rw [hf] at h
  have HF := Lib.hid hf
  have h : (if fd.size = 0 then some (L, n, 23) else _) = some (L2, n2, r) := h
  by_cases h2 : fd.size = 0
  · rw [if_pos h2] at h
    cases h
    have e2 := toList_nil h2
    clear hx hv ho hg hm hf
    go_enter Try.func18, Try.ntmps18
    go_wp2_with (first | (go_at_call 33; (refine (item_Field.calls s fd _ HF.out).mono ?_); rintro e w2 ⟨rfl, hb⟩; have HB := Lib.hid hb; clear hb))
    go_ret
    exact ⟨rfl, HX.out.below HB.out, XKeep.of_below HB.out⟩
  rw [if_neg h2] at h
  obtain ⟨e1, e2⟩ := toList_ne h2
  by_cases h3 : n ≥ 16
  · rw [if_pos h3] at h
    cases h
    clear hx hv ho hg hm hf
    go_enter Try.func18, Try.ntmps18
    go_wp2_with (first | (go_at_call 33; (refine (item_Field.calls s fd _ HF.out).mono ?_); rintro e w2 ⟨rfl, hb⟩; have HB := Lib.hid hb; have k3 := blk_cell (blk_below HV.out hb) 1; simp at k3; clear hb))
    go_ret
    exact ⟨rfl, HX.out.below HB.out, XKeep.of_below HB.out⟩
  rw [if_neg h3] at h
  generalize hl : L.getD (L.length - 1) [] = l at h
  by_cases h4 : l.length = 0
  · rw [if_pos h4] at h
    cases h
  rw [if_neg h4] at h
  generalize hc : l.getD (l.length - 1) [] = c at h
  by_cases h5 : (c.length + 1) * 16 ≤ 140737488355328
  case neg =>
    rw [if_neg h5] at h
    cases h
  rw [if_pos h5] at h
  cases hs : item_Sorted.f (c ++ [s]) with
  | none => rw [hs] at h; cases h
  | some c2 =>
  rw [hs] at h
  cases h
  obtain ⟨j, hj⟩ : ∃ j, l.length = j + 1 := ⟨l.length - 1, by omega⟩
  have HS := Lib.hid hs
  have HL := Lib.hid hl
  have HC := Lib.hid hc
  have H5 := Lib.hid h5
  have HFR := Lib.hid hfr
  have hmi : i ≤ 9223372036854775806 := by
    unfold maxLen at hm
    omega
  have HGB := Lib.hid hg
  have HI := Lib.hid hi
  have HJ := Lib.hid hj
  have h3 : ¬ (16 ≤ n) := h3
  clear hx hv ho hg hm hf hs hl hc h5 hfr h0 h2 h4
  generalize hcs : c ++ [s] = cs at HS
  have HCS := Lib.hid hcs
  clear hcs h
  go_enter Try.func18, Try.ntmps18
  go_wp2_with (first
    | (go_at_call 33; (refine (item_Field.calls s fd _ HF.out).mono ?_); rintro e w2 ⟨rfl, hb⟩; have HB := Lib.hid hb; obtain ⟨gv, cv, gl, cl, vc, okl, okc, hO⟩ := (HX.out.below hb).open_ (by have := HI.out; omega) HL.out (by have := HJ.out; omega) HC.out; obtain ⟨Ac, cc, rfl⟩ := Kd.R_slice hO.row; have HO := Lib.hid hO; have q0 := blk_cell hO.blk 0; have q1 := blk_cell hO.blk 1; have q2 := hO.cellL; have q3 := hO.cellC; have hmj := hO.mxl; unfold maxLen at hmj; rw [HI.out] at q0 q2; rw [HJ.out] at q2 q3 hmj; simp at q0 q1 q2 q3; clear hb hO))
  repeat (go_quiet (fail); try (go_wp2_with (first
    | (at_builtin; refine Kd.R_append Kd.string (w0 := _) B rfl (.tmp 52) (.tmp 54) 31 9 (.string ⟨#[]⟩) 16 rfl Try.underlying31 strInfo rfl (by decide) (by omega) (.slice Ac c.length cc) c s [.string s] (fun k => okc k ∨ w2.heap.size ≤ k) (fun _ => False) rfl rfl rfl (fun _ hk => hk.elim) (fun k hk => Or.inr hk) (Kd.R_drewN (Kd.R_mono HO.out.row (fun _ hk => Or.inl hk)) _) (Below.refl _ _) (Nat.le_trans HO.out.lo (Nat.le_of_lt (blk_lt HO.out.blk))) H5.out ?_; intro v1 w3 hv1 hb1 hg1 _; obtain ⟨A1, c1, rfl⟩ := Kd.R_slice hv1; rw [HCS.out] at hv1 ⊢; have HR1 := Lib.hid hv1; have HG1 := Lib.hid (drewN_grown hg1); clear hv1 hb1 hg1)
    | (go_at_call 34; (refine (item_Sorted.calls _ _ cs c2 _ (Kd.R_reads' HR1.out).2.2 (Kd.R_reads' HR1.out).2.1 HS.out).mono ?_); rintro e w4 ⟨v2, rfl, hr2, hb2⟩; obtain ⟨A2, c2_, rfl⟩ := Kd.R_slice hr2; obtain ⟨k5, f5, k6, f6⟩ := HO.out.after HG1.out hb2; rw [HJ.out] at k5 f5; simp at k5 f5; have hne := HO.out.ne; have hne2 := Ne.symm hne; have HR2 := Lib.hid hr2; have HB2 := Lib.hid hb2; clear hr2 hb2))))
  go_ret
  have ej : j = l.length - 1 := by have := HJ.out; omega
  rw [ej]
  exact ⟨rfl, HO.out.put (fun k hk => HFR.out k (Nat.le_trans HB.out.size hk)) (by have := HJ.out; omega) (by have := HI.out; omega) (Nat.le_trans HO.out.lo (Nat.le_of_lt (blk_lt HO.out.blk))) HG1.out HB2.out HR2.out _, (XKeep.of_below HB.out).trans (HO.out.kept HG1.out HB2.out _ _)⟩

end Go.Proofs.Ytajlgbonapfckaa.PExprAsks
