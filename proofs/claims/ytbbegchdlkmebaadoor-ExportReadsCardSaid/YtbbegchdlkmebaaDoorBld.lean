/- strings.Builder of the call's own: WriteByte, WriteString, String, with a frame that keeps every block but the builder's own, also a conversion's row of bytes. (The walks are turned from the shelf's.) -/
import Derived.Test.YtbbegchdlkmebaaDoorConv
import Derived.Test.YtbbegchdlkmebaaDoorShelf
import Derived.Lib.AppendStr
namespace Go.Proofs.YtbbegchdlkmebaaDoor.Bld
open Go.RowKit Go.Proofs.YtbbegchdlkmebaaDoorW.PrintWords Go.Proofs.YtbbegchdlkmebaaDoor.Conv
set_option linter.unusedVariables false
set_option linter.unusedSimpArgs false

/-- What stays beside a builder: every block but its own two. -/
def Kept5 (b : Nat) (w w' : World) : Prop := ∀ k o, w.heap[k]? = some o → k ≠ b → (∀ c, o ≠ .cells c 5 (0, 0)) → w'.heap[k]? = some o
theorem Kept5.refl (b : Nat) (w : World) : Kept5 b w w := fun _ _ h _ _ => h
theorem Kept5.trans {b : Nat} {a c d : World} (h : Kept5 b a c) (k : Kept5 b c d) : Kept5 b a d := fun i o hi hb ho => k i o (h i o hi hb ho) hb ho
theorem Kept5.alloc {b : Nat} {a w : World} (h : Kept5 b a w) (o : Obj) : Kept5 b a (w.alloc o) := by
  intro k x hk hb hx
  have h1 := h k x hk hb hx
  have hlt : k < w.heap.size := (Array.getElem?_eq_some_iff.1 h1).1
  exact (Lib.alloc_old w o k hlt).trans h1
theorem Kept5.setCell {b : Nat} {a w : World} (h : Kept5 b a w) (j : Nat) (v : Value) : Kept5 b a (w.setCell ⟨b, j, none⟩ v) := by
  intro k x hk hb hx
  have h1 := h k x hk hb hx
  rw [Below.heap_setCell _ _ _ _ (fun e => hb (by exact e))]
  exact h1
theorem Kept5.grown {b : Nat} {a w w' : World} {base n : Nat} {v : Value} {xs : List Value} (h : Kept5 b a w) (hown : w.ownsRow base 5 1 v n xs) (hg : w.grownBy w' v.ownBlock) : Kept5 b a w' := by
  intro k x hk hb hx
  have h1 := h k x hk hb hx
  have hlt : k < w.heap.size := (Array.getElem?_eq_some_iff.1 h1).1
  rw [hg.block k hlt ?_]
  · exact h1
  · intro e
    obtain ⟨cells, hc⟩ := own_typed hown k e.symm
    rw [h1] at hc
    exact hx cells (Option.some.inj hc)
theorem Kept5.drewN {b : Nat} {a w : World} (h : Kept5 b a w) (n : Nat) : Kept5 b a (w.drewN n) := h
/-- A row of a conversion stays. -/
theorem Kept5.bytes {b g : Nat} {w w' : World} {cs : Array Value} {T : TypeId} {lo hi : Nat} (h : Kept5 b w w') (hg : w.heap[g]? = some (.cells cs T (lo, hi))) (hne : g ≠ b) (hz : (lo, hi) ≠ (0, 0)) : w'.heap[g]? = some (.cells cs T (lo, hi)) :=
  h g _ hg hne (fun c e => by
    injection e with _ _ e
    exact hz e)

end Go.Proofs.YtbbegchdlkmebaaDoor.Bld
