/- strings.Builder of the call's own: WriteByte, WriteString, String, with a frame that keeps every block but the builder's own, also a conversion's row of bytes. (The walks are turned from the shelf's.) -/
import Derived.Test.YtbbegchdlkmebaaDoorConv
import Derived.Test.YtbbegchdlkmebaaDoorShelf
import Derived.Lib.AppendStr
namespace Go.Proofs.YtbbegchdlkmebaaDoor.Bld
open Go.RowKit Go.Proofs.YtbbegchdlkmebaaDoorW.PrintWords Go.Proofs.YtbbegchdlkmebaaDoor.Conv
set_option linter.unusedVariables false
set_option linter.unusedSimpArgs false

/-- What stays beside a builder: every block but its own two. -/
def Kept5 (b : Nat) (w w' : World) : Prop := ∀ k o, w.heap[k]? = some o → k ≠ b → (∀ c, o ≠ .cells c 5 (0, 0)) → w'.heap[k]? = some o
theorem Kept5.refl (b : Nat) (w : World) : Kept5 b w w := fun _ _ h _ _ => h
theorem Kept5.trans {b : Nat} {a c d : World} (h : Kept5 b a c) (k : Kept5 b c d) : Kept5 b a d := fun i o hi hb ho => k i o (h i o hi hb ho) hb ho
theorem Kept5.alloc {b : Nat} {a w : World} (h : Kept5 b a w) (o : Obj) : Kept5 b a (w.alloc o) := by
  intro k x hk hb hx
  have h1 := h k x hk hb hx
  have hlt : k < w.heap.size := (Array.getElem?_eq_some_iff.1 h1).1
  exact (Lib.alloc_old w o k hlt).trans h1
theorem Kept5.setCell {b : Nat} {a w : World} (h : Kept5 b a w) (j : Nat) (v : Value) : Kept5 b a (w.setCell ⟨b, j, none⟩ v) := by
  intro k x hk hb hx
  have h1 := h k x hk hb hx
  rw [Below.heap_setCell _ _ _ _ (fun e => hb (by exact e))]
  exact h1
theorem Kept5.grown {b : Nat} {a w w' : World} {base n : Nat} {v : Value} {xs : List Value} (h : Kept5 b a w) (hown : w.ownsRow base 5 1 v n xs) (hg : w.grownBy w' v.ownBlock) : Kept5 b a w' := by
  intro k x hk hb hx
  have h1 := h k x hk hb hx
  have hlt : k < w.heap.size := (Array.getElem?_eq_some_iff.1 h1).1
  rw [hg.block k hlt ?_]
  · exact h1
  · intro e
    obtain ⟨cells, hc⟩ := own_typed hown k e.symm
    rw [h1] at hc
    exact hx cells (Option.some.inj hc)
theorem Kept5.drewN {b : Nat} {a w : World} (h : Kept5 b a w) (n : Nat) : Kept5 b a (w.drewN n) := h
/-- A row of a conversion stays. -/
theorem Kept5.bytes {b g : Nat} {w w' : World} {cs : Array Value} {T : TypeId} {lo hi : Nat} (h : Kept5 b w w') (hg : w.heap[g]? = some (.cells cs T (lo, hi))) (hne : g ≠ b) (hz : (lo, hi) ≠ (0, 0)) : w'.heap[g]? = some (.cells cs T (lo, hi)) :=
  h g _ hg hne (fun c e => by
    injection e with _ _ e
    exact hz e)

theorem bld_check (B b : Nat) (bs : List Value) (w : World) (h : Lib.IsBuilder 55 5 B b bs w) :
    Calls Tryd.prog 46 #[.pointer (some ⟨b, 0, none⟩)] w fun e w' => e = .returned (.tuple #[]) ∧ Lib.BuilderAt 55 5 B b (.pointer (some ⟨b, 0, none⟩)) bs w' ∧ Below B w w' ∧ Kept5 b w w' ∧ w'.heap.size = w.heap.size := by
  rcases h with h | h
  · refine (Any.Builder_copyCheck_fresh Tryd.lays240 Tryd.Builder_X72_240 b w h.cell0 h.shape h.frozen0).mono ?_
    rintro e w' ⟨rfl, rfl⟩
    exact ⟨rfl, h.used _, (Below.refl B w).setCell (p := ⟨b, 0, none⟩) h.1 _, (Kept5.refl b w).setCell 0 _, by simp⟩
  · refine (Any.Builder_copyCheck_used Tryd.lays240 Tryd.Builder_X72_240 b w h.cell0).mono ?_
    rintro e w' ⟨rfl, rfl⟩
    exact ⟨rfl, h, Below.refl B _, Kept5.refl b _, rfl⟩
theorem bld_info : (Tryd.prog.info? 5).map (fun i => (i.zero, i.size, i.bytes)) = some (some (.int .u8 0), 1, 1) := by kernel_rfl
set_option maxHeartbeats 2000000 in
set_option maxRecDepth 100000 in
theorem bld_string (B b : Nat) (bs : List Value) (s : ByteArray) (w : World) (h : Lib.IsBuilder 55 5 B b bs w) (hlen : bs.length + s.size ≤ 140737488355328) (hBw : B ≤ w.heap.size) :
    Calls Tryd.prog 27 #[.pointer (some ⟨b, 0, none⟩), .string s] w fun e w' => e = .returned (.tuple #[.int .i64 s.size, .nilIface]) ∧ Lib.IsBuilder 55 5 B b (bs ++ Lib.strCells s) w' ∧ Below B w w' ∧ Kept5 b w w' := by
  obtain ⟨i0, hi, hzz⟩ := Option.map_eq_some_iff.1 bld_info
  simp only [Prod.mk.injEq] at hzz
  obtain ⟨hz0, hz1, hz2⟩ := hzz
  go_enter Tryd.func27, Tryd.ntmps27
  go_wp2_with (go_at_call 46; refine (bld_check B b bs _ h).mono ?_)
  rintro e w1 ⟨rfl, h1, hb1, hk1, hsz1⟩
  obtain ⟨hB, v, hbk, hown, hne⟩ := h1
  have c0 : w1.cell? ⟨b, 0, none⟩ = some (.pointer (some ⟨b, 0, none⟩)) := by rw [Lib.cell_of_heap hbk]; rfl
  have c1 : w1.cell? ⟨b, 1, none⟩ = some v := by rw [Lib.cell_of_heap hbk]; rfl
  have hBw1 : B ≤ w1.heap.size := by rw [hsz1]; exact hBw
  clear hsz1
  go_wp2_with (at_builtin; refine Lib.wpList_append_own_string _ rfl _ _ 51 9 rfl B 5 i0 Tryd.underlying51 Tryd.underlying9 hi hz0 hz1 hz2 _ _ _ rfl hown s rfl ?c3 ?c4 ?c5 ?_)
  case c3 => unfold maxLen; omega
  case c4 => omega
  case c5 => omega
  intro v' w2 hown' hgrow _
  have hlt : b < w1.heap.size := by
    rcases Nat.lt_or_ge b w1.heap.size with h' | h'
    · exact h'
    · simp [Array.getElem?_eq_none h'] at hbk
  have hb2 : w2.heap[b]? = some (.cells #[.pointer (some ⟨b, 0, none⟩), v] 55 (0, 0)) := by
    rw [hgrow.block b hlt (fun e => hne e.symm)]
    exact hbk
  have d0 : w2.cell? ⟨b, 0, none⟩ = some (.pointer (some ⟨b, 0, none⟩)) := by rw [Lib.cell_of_heap hb2]; rfl
  have d1 : w2.cell? ⟨b, 1, none⟩ = some v := by rw [Lib.cell_of_heap hb2]; rfl
  have f1 : w2.frozen? ⟨b, 1, none⟩ = false := Lib.frozen_of_heap hb2 1
  have HK := Lib.hid (hk1.grown hown hgrow)
  have HO := Lib.hid hown'
  obtain ⟨A', c', hv'⟩ := own_slice hown'
  subst hv'
  clear hown'
  go_wp2
  go_ret2
  refine ⟨rfl, .inr ?_, ?_, HK.out.setCell 1 _⟩
  · exact Lib.BuilderAt.put (T := 55) (e := 5) hB hb2 (bs' := bs ++ Lib.strCells s) (by rw [List.length_append, Lib.strCells_length]; exact HO.out) (by decide)
  · exact (hb1.grown hgrow hBw1 (fun k hk => (hown.lt k hk).1)).setCell (p := ⟨b, 1, none⟩) hB _
theorem bld_new (T e : TypeId) (w : World) : Lib.IsBuilder T e w.heap.size w.heap.size (nums .u8 []) (w.alloc (.cells #[.pointer none, .slice none 0 0] T)) := Lib.fresh_isBuilder T e w
/-- A builder stays where a new block is made, and over a conversion. -/
theorem bld_keep {T e : TypeId} {B b : Nat} {bs : List Value} {w w' : World} (h : Lib.IsBuilder T e B b bs w) (hk : ∀ k, k < w.heap.size → w'.heap[k]? = w.heap[k]?) : Lib.IsBuilder T e B b bs w' := by
  have one : ∀ p, Lib.BuilderAt T e B b p bs w → Lib.BuilderAt T e B b p bs w' := by
    rintro p ⟨hB, v, hbk, hown, hne⟩
    have hlt : b < w.heap.size := (Array.getElem?_eq_some_iff.1 hbk).1
    exact ⟨hB, v, by rw [hk b hlt]; exact hbk, own_move hown (fun k hkk => hk k (by
      obtain ⟨cells, hc⟩ := own_typed hown k hkk
      exact (Array.getElem?_eq_some_iff.1 hc).1)), hne⟩
  exact h.imp (one _) (one _)
end Go.Proofs.YtbbegchdlkmebaaDoor.Bld
