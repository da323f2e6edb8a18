/- What an export's text says, read by the program and by the reference: in plain Lean. -/
import Derived.Test.YtbbegchdlkmebaaDoorPExportReadsx6
import Derived.Test.YtbbegchdlkmebaaDoorPExportReadsx13
import Derived.Test.YtbbegchdlkmebaaDoorReadsA
import Derived.Test.YtbbegchdlkmebaaDoorHex
import Derived.Test.YtbbegchdlkmebaaDoorCut
import Derived.Test.YtbbegchdlkmebaaDoorDec
import Derived.Test.YtbbegchdlkmebaaDoorStr
import Derived.Test.YtbbegchdlkmebaaDoorEvs
namespace Go.Proofs.YtbbegchdlkmebaaDoor.Pure
open Go.RowKit Go.Proofs.YtbbegchdlkmebaaDoor.PExportReads Go.Proofs.YtbbegchdlkmebaaDoorW.PrintWords Go.Proofs.YtbbegchdlkmebaaDoorW.PrintLast Go.Proofs.YtbbegchdlkmebaaDoorW.PrintMore Go.Proofs.YtbbegchdlkmebaaDoor.Evs Go.Proofs.YtbbegchdlkmebaaDoor.Str Go.Proofs.YtbbegchdlkmebaaDoor.Conv Go.Proofs.YtbbegchdlkmebaaDoor.Hex Go.Proofs.YtbbegchdlkmebaaDoor.Cut Go.Proofs.YtbbegchdlkmebaaDoor.Dec
set_option linter.unusedVariables false
set_option linter.unusedSimpArgs false
namespace RE
open Cu EW RA RB RC RD
/-! ### the two loops -/
def pBody (k i : Nat) (c0 c1 c2 c3 c4 : Int) (tx : ByteArray) (items : List ByteArray) (q : ByteArray × ByteArray × ByteArray × Bool) : Option rdOut :=
 if q.2.2.2 = true then
  if 6 ≤ i then (item_Name.f q.1).bind fun nm => (strings_HasPrefix.f q.1 (⟨#[95, 95]⟩ : ByteArray)).bind fun hp =>
   if q.1.size + q.2.1.size ≤ 1000000000 then (if nm = true ∧ hp = false ∧ items.length < 64 ∧ q.1.size + 1 + q.2.1.size ≤ 1024 then rdGo k (i + 1) q.2.2.1 c0 c1 c2 c3 c4 tx (items ++ [(q.1 ++ (⟨#[61]⟩ : ByteArray)) ++ q.2.1]) else some rdZ) else none
  else if (q.1.toList == (tellKeys.getD i ⟨#[]⟩).toList) = true then
   if i = 0 then rdGo k 1 q.2.2.1 c0 c1 c2 c3 c4 q.2.1 items
   else (tellV i q.2.1).bind fun n => if n.2 = true then rdGo k (i + 1) q.2.2.1 (if i = 5 then n.1 else c0) (if i = 4 then n.1 else c1) (if i = 3 then n.1 else c2) (if i = 2 then n.1 else c3) (if i = 1 then n.1 else c4) tx items else some rdZ
  else some rdZ
 else some rdZ
theorem p_step (i : Nat) (s : ByteArray) (hs : s.size ≤ 1000000) (c0 c1 c2 c3 c4 : Int) (tx : ByteArray) (items : List ByteArray) (out : rdOut) (hnt : ∀ r, bytesOf s = 10 :: r → i ≤ 6) (h : Ev (fun k => (export_field.f k s).bind (pBody k i c0 c1 c2 c3 c4 tx items)) out) : Ev (fun k => rdGo k i s c0 c1 c2 c3 c4 tx items) out := by
 by_cases h10 : (10 : Int) ∈ bytesOf s
 ·obtain ⟨l, r, e, hl⟩ := mem_split _ h10
  refine Ev.step (fun k => rdGo.eq_2 _ _ _ _ _ _ _ _ _ _) (Ev.bindc (line_at s (by omega) l r e hl) (Ev.neg ?_ h))
  rintro ⟨_, g2, g3⟩
  by_cases hl0 : l = []
  ·subst hl0
   have := hnt r e
   omega
  ·exact nil_str l hl0 g2
 ·exact Ev.step (fun k => rdGo.eq_2 _ _ _ _ _ _ _ _ _ _) (Ev.bindc (line_no s h10) (Ev.neg (by simp) h))
theorem toL (s : ByteArray) (x y : UInt8) : s.toList = [x, y] ↔ bytesOf s = [(x.toNat : Int), (y.toNat : Int)] := by
 have h : (⟨#[x, y]⟩ : ByteArray).toList = [x, y] := by
  rw [ByteArray.toList_eq]
 rw [← h, toList_iff]
 rfl
theorem prefix_tells (key : ByteArray) : ∃ b : Bool, strings_HasPrefix.f key (⟨#[95, 95]⟩ : ByteArray) = some b ∧ (b = true ↔ ∃ t, bytesOf key = 95 :: 95 :: t) := by
 have h2 : ((⟨#[95, 95]⟩ : ByteArray).size : Int) = 2 := rfl
 by_cases hz : 2 ≤ key.size
 ·refine ⟨((key.extract 0 2).toList == (⟨#[95, 95]⟩ : ByteArray).toList), ?_, ?_⟩
  ·unfold strings_HasPrefix.f stringslite_HasPrefix.f
   rw [h2, if_pos (by omega), if_pos (by omega), if_pos (by omega)]
   rfl
  ·rw [beq_iff_eq, toList_iff, bytesOf_extract, List.drop_zero]
   constructor
   ·intro h
    refine ⟨(bytesOf key).drop 2, ?_⟩
    rw [← List.take_append_drop 2 (bytesOf key), h]
    rfl
   ·rintro ⟨t, h⟩
    rw [h]
    rfl
 ·refine ⟨false, ?_, fun h => by (cases h), fun h => ?_⟩
  ·unfold strings_HasPrefix.f stringslite_HasPrefix.f
   rw [h2, if_neg (by omega)]
   rfl
  ·obtain ⟨t, h⟩ := h
   have e := congrArg List.length h
   rw [bytesOf_length, List.length_cons, List.length_cons] at e
   omega
theorem p_bad (i : Nat) (hi : 6 ≤ i) (s : ByteArray) (hs : s.size ≤ 1000000) (c0 c1 c2 c3 c4 : Int) (tx : ByteArray) (items : List ByteArray) (hb : Bad s) (hnt : ∀ r, bytesOf s = 10 :: r → i ≤ 6) : Ev (fun k => rdGo k i s c0 c1 c2 c3 c4 tx items) rdZ := by
 obtain ⟨⟨key, v, r, ok, hf, hz, hn⟩, _⟩ := hb
 refine p_step i s hs _ _ _ _ _ _ _ _ hnt (Ev.bind hf ?_)
 cases ok with
 | false => exact Ev.neg (by simp) (Ev.now _)
 | true =>
  obtain ⟨b, hp, _⟩ := prefix_tells key
  exact Ev.pos rfl (Ev.pos hi (Ev.bindc (name_f key) (Ev.bindc hp (Ev.pos (by show key.size + v.size ≤ 1000000000; omega) (Ev.neg (fun g => by have := g.1; rw [hn rfl] at this; cases this) (Ev.now _))))))
def Fit (key v : List Int) : Prop := (¬ ∃ t, key = 95 :: 95 :: t) ∧ key.length + 1 + v.length ≤ 1024
theorem wb_size (key v : List Int) : key.length + v.length + 2 ≤ (wb key v).length := by
 unfold wb
 split <;> simp [leGo_len] <;> omega
theorem good_bytes {s : ByteArray} {key v R : List Int} (h : GoodS s key v R) (hs : s.size ≤ 1000000) : Bytes key ∧ Bytes v ∧ Bytes R ∧ (wb key v).length + R.length = s.size ∧ (61 : Int) ∉ key ∧ key ≠ [] ∧ key.length + v.length ≤ 10000000 := by
 have hb := bytesOf_bytes s
 rw [h.1] at hb
 have hz := congrArg List.length h.1
 rw [bytesOf_length, List.length_append] at hz
 have hw := wb_size key v
 have hk : Bytes key := fun x hx => hb x (by unfold wb; split <;> simp [hx])
 have hv : Bytes v := fun x hx => hb x (by unfold wb; split <;> simp [hx])
 have hn := name_ok hk h.2.1
 exact ⟨hk, hv, fun x hx => hb x (by simp [hx]), hz.symm, hn.1, hn.2.2, by omega⟩
theorem p_good (i : Nat) (hi : 6 ≤ i) (s : ByteArray) (hs : s.size ≤ 1000000) (c0 c1 c2 c3 c4 : Int) (tx : ByteArray) (items : List ByteArray) (key v R : List Int) (hg : GoodS s key v R) (hnt : ∀ r, bytesOf s = 10 :: r → i ≤ 6) :
  (Fit key v ∧ items.length < 64 → ∀ out, Ev (fun k => rdGo k (i + 1) (strOfNums R) c0 c1 c2 c3 c4 tx (items ++ [strOfNums (key ++ 61 :: v)])) out → Ev (fun k => rdGo k i s c0 c1 c2 c3 c4 tx items) out) ∧
  (¬ (Fit key v ∧ items.length < 64) → Ev (fun k => rdGo k i s c0 c1 c2 c3 c4 tx items) rdZ) := by
 obtain ⟨hk, hv, hR, hz, h61, hne, hkv⟩ := good_bytes hg hs
 obtain ⟨b, hp, hb⟩ := prefix_tells (strOfNums key)
 rw [bytes_str hk] at hb
 have e1 : (strOfNums key).size = key.length := size_str key
 have e2 : (strOfNums v).size = v.length := size_str v
 have ex : (strOfNums key ++ (⟨#[61]⟩ : ByteArray)) ++ strOfNums v = strOfNums (key ++ 61 :: v) := by
  rw [show (⟨#[61]⟩ : ByteArray) = strOfNums [61] from rfl, str_append, str_append]
  simp
 have pre : ∀ out, Ev (fun k => if nameV (strOfNums key) = true ∧ b = false ∧ items.length < 64 ∧ (strOfNums key).size + 1 + (strOfNums v).size ≤ 1024 then rdGo k (i + 1) (strOfNums R) c0 c1 c2 c3 c4 tx (items ++ [(strOfNums key ++ (⟨#[61]⟩ : ByteArray)) ++ strOfNums v]) else some rdZ) out → Ev (fun k => rdGo k i s c0 c1 c2 c3 c4 tx items) out := fun out ho =>
  p_step i s hs _ _ _ _ _ _ _ _ hnt (Ev.bind hg.2.2.1 (Ev.pos rfl (Ev.pos hi (Ev.bindc (name_f _) (Ev.bindc hp (Ev.pos (by show (strOfNums key).size + (strOfNums v).size ≤ 1000000000; omega) ho))))))
 refine ⟨fun hf out ho => pre _ (Ev.pos ⟨hg.2.1, ?_, hf.2, by rw [e1, e2]; exact hf.1.2⟩ (by rw [ex]; exact ho)), fun hf => pre _ (Ev.neg (fun g => hf ⟨⟨fun hc => ?_, by have := g.2.2.2; rw [e1, e2] at this; exact this⟩, g.2.2.1⟩) (Ev.now _))⟩
 ·exact bool_no hb hf.1.1
 ·have := g.2.1
  rw [hb.2 hc] at this
  cases this
abbrev rfOut : Type := Int × Int × Int × Int × Int × Int × List ByteArray × Int × Bool
def rfZ : rfOut := (0, 0, 0, 0, 0, 0, [], 0, false)
theorem r_step (S s : ByteArray) (hS : S.size ≤ 1000000) (at_ : Nat) (ha : at_ ≤ S.size) (hd : bytesOf s = (bytesOf S).drop at_) (items : List ByteArray) (hi : items.length ≤ 64) (a b c d e f : Int) (out : rfOut) (hnt : ∀ r, bytesOf s = 10 :: r → items.length = 0)
  (h : Ev (fun k => logbookref32_Read.j3 k S (at_ : Int) items (items.length : Int) false a b c d e f) out) : Ev (fun k => logbookref32_Read.l0 k S (at_ : Int) items (items.length : Int) a b c d e f) out := by
 refine Ev.step (fun k => logbookref32_Read.l0.eq_2 _ _ _ _ _ _ _ _ _ _ _) (Ev.pos (by omega) (Ev.both (fun g => Ev.pos (by omega) (Ev.both (fun g2 => ?_) (fun g2 => h))) (fun g => h)))
 have hbt : (bytesOf S).drop at_ = bt S (at_ : Int) :: (bytesOf S).drop (at_ + 1) := bt_drop S at_ (by omega)
 rw [g2] at hbt
 have h0 := hnt _ (hd.trans hbt)
 rw [show decide ((items.length : Int) > 0) = false from decide_eq_false (by omega)]
 exact h
theorem r_term (S s : ByteArray) (hS : S.size ≤ 1000000) (at_ : Nat) (hd : bytesOf s = (bytesOf S).drop at_) (items : List ByteArray) (hi : items.length ≤ 64) (h0 : items.length ≠ 0) (r : List Int) (hr : bytesOf s = 10 :: r) (a b c d e f : Int) :
  at_ + 1 ≤ S.size ∧ Ev (fun k => logbookref32_Read.l0 k S (at_ : Int) items (items.length : Int) a b c d e f) (a, b, c, d, e, f, items, ((at_ + 1 : Nat) : Int), true) := by
 have hlt : at_ < S.size := by
  have e := congrArg List.length (hd.symm.trans hr)
  rw [List.length_drop, bytesOf_length, List.length_cons] at e
  omega
 have hbt := bt_drop S at_ hlt
 rw [← hd, hr] at hbt
 injection hbt with e1 e2
 refine ⟨by omega, Ev.step (fun k => logbookref32_Read.l0.eq_2 _ _ _ _ _ _ _ _ _ _ _) (Ev.pos (by omega) (Ev.pos (by omega) (Ev.pos (by omega) (Ev.pos e1.symm ?_))))⟩
 rw [show decide ((items.length : Int) > 0) = true from decide_eq_true (by omega)]
 refine Ev.step (fun k => logbookref32_Read.j3.eq_2 _ _ _ _ _ _ _ _ _ _ _ _) (Ev.pos rfl ?_)
 rw [wi1 (i := at_) (n := S.size) (by omega) (by omega)]
 exact Ev.now _
theorem ext_at (S s : ByteArray) (at_ : Nat) (hd : bytesOf s = (bytesOf S).drop at_) : S.extract ((at_ : Int)).toNat S.size = s := by
 apply bytesOf_inj
 rw [Int.toNat_natCast, bytesOf_extract, List.take_of_length_le (by rw [bytesOf_length]; exact Nat.le_refl _), hd]
theorem r_bad (S s : ByteArray) (hS : S.size ≤ 1000000) (at_ : Nat) (ha : at_ ≤ S.size) (hd : bytesOf s = (bytesOf S).drop at_) (items : List ByteArray) (hi : items.length ≤ 64) (a b c d e f : Int) (hnt : ∀ r, bytesOf s = 10 :: r → items.length = 0) (hb : Bad s) :
  Ev (fun k => logbookref32_Read.l0 k S (at_ : Int) items (items.length : Int) a b c d e f) rfZ := by
 obtain ⟨_, x, hx⟩ := hb
 refine r_step S s hS at_ ha hd items hi a b c d e f _ hnt (Ev.step (fun k => logbookref32_Read.j3.eq_2 _ _ _ _ _ _ _ _ _ _ _ _) (Ev.neg (by decide) (Ev.pos (by omega) (Ev.pos (by omega) ?_))))
 rw [ext_at S s at_ hd]
 exact Ev.bind hx (Ev.neg (by simp) (Ev.now _))
theorem r_good (S s : ByteArray) (hS : S.size ≤ 1000000) (at_ : Nat) (ha : at_ ≤ S.size) (hd : bytesOf s = (bytesOf S).drop at_) (items : List ByteArray) (hi : items.length ≤ 64) (a b c d e f : Int) (hnt : ∀ r, bytesOf s = 10 :: r → items.length = 0) (hs : s.size ≤ 1000000) (key v R : List Int) (hg : GoodS s key v R) :
  at_ + (wb key v).length ≤ S.size ∧ R = (bytesOf S).drop (at_ + (wb key v).length) ∧
  (Fit key v → ∀ out, Ev (fun k => logbookref32_Read.l0 k S ((at_ + (wb key v).length : Nat) : Int) (items ++ [strOfNums (key ++ 61 :: v)]) ((items.length + 1 : Nat) : Int) a b c d e f) out → Ev (fun k => logbookref32_Read.l0 k S (at_ : Int) items (items.length : Int) a b c d e f) out) ∧
  (¬ Fit key v → Ev (fun k => logbookref32_Read.l0 k S (at_ : Int) items (items.length : Int) a b c d e f) rfZ) := by
 obtain ⟨hk, hv, hR, hz, h61, hne, hkv⟩ := good_bytes hg hs
 have hsz : at_ + s.size = S.size := by
  have e := congrArg List.length hd
  rw [List.length_drop, bytesOf_length, bytesOf_length] at e
  omega
 have hB : Bytes (key ++ 61 :: v) := fun x hx => by
  simp only [List.mem_append, List.mem_cons] at hx
  rcases hx with h | rfl | h
  ·exact hk x h
  ·omega
  ·exact hv x h
 have hxz : (strOfNums (key ++ 61 :: v)).size = key.length + 1 + v.length := by
  rw [size_str, List.length_append, List.length_cons]
  omega
 have hkl : 0 < key.length := List.length_pos_iff.2 hne
 have hI := item_is key v hk hv h61 hkv
 rw [if_pos hg.2.1] at hI
 have htz : (strOfNums (wb key v)).size = (wb key v).length := size_str _
 have hpx : ((strOfNums (key ++ 61 :: v)).extract 0 2).toList = ([95, 95] : List UInt8) ↔ ∃ t, key = 95 :: 95 :: t := by
  rw [toL, bytesOf_extract, List.drop_zero, bytes_str hB]
  match key, hne with
  | [x], _ =>
   constructor
   ·intro h
    simp at h
   ·rintro ⟨t, h⟩
    simp at h
  | x :: y :: t, _ =>
   constructor
   ·intro h
    have h2 : [x, y] = [((95 : UInt8).toNat : Int), ((95 : UInt8).toNat : Int)] := by simpa using h
    injection h2 with e1 e2
    injection e2 with e2 _
    exact ⟨t, by rw [e1, e2]; rfl⟩
   ·rintro ⟨t', h⟩
    injection h with e1 e2
    injection e2 with e2 e3
    rw [e1, e2]
    rfl
 have pre : ∀ out, Ev (fun k => if ((strOfNums (key ++ 61 :: v)).size : Int) > 1024 then (some rfZ) else (if ((strOfNums (key ++ 61 :: v)).size : Int) > 1 then (if (0 : Int) ≤ 2 then (if 2 ≤ ((strOfNums (key ++ 61 :: v)).size : Int) then (if ((strOfNums (key ++ 61 :: v)).extract 0 2).toList = ([95, 95] : List UInt8) then (some rfZ) else (if items.length < 8796093022208 then ((logbookref32_Item.f k (strOfNums (key ++ 61 :: v))).bind fun t215 => (logbookref32_Read.l0 k S (wrap64 ((at_ : Int) + (t215.size : Int))) (items ++ [strOfNums (key ++ 61 :: v)]) (wrap64 ((items.length : Int) + 1)) a b c d e f)) else (none))) else (none)) else (none)) else (if items.length < 8796093022208 then ((logbookref32_Item.f k (strOfNums (key ++ 61 :: v))).bind fun t219 => (logbookref32_Read.l0 k S (wrap64 ((at_ : Int) + (t219.size : Int))) (items ++ [strOfNums (key ++ 61 :: v)]) (wrap64 ((items.length : Int) + 1)) a b c d e f)) else (none)))) out → Ev (fun k => logbookref32_Read.l0 k S (at_ : Int) items (items.length : Int) a b c d e f) out := fun out ho => by
  refine r_step S s hS at_ ha hd items hi a b c d e f _ hnt (Ev.step (fun k => logbookref32_Read.j3.eq_2 _ _ _ _ _ _ _ _ _ _ _ _) (Ev.neg (by decide) (Ev.pos (by omega) (Ev.pos (by omega) ?_))))
  rw [ext_at S s at_ hd]
  exact Ev.bind hg.2.2.2 (Ev.pos rfl ho)
 refine ⟨by omega, ?_, fun hf out ho => pre out ?_, fun hf => pre _ ?_⟩
 ·rw [← List.drop_drop, ← hd, hg.1, List.drop_left]
 ·refine Ev.neg (by have := hf.2; omega) (Ev.pos (by omega) (Ev.pos (by decide) (Ev.pos (by omega) (Ev.neg (fun g => hf.1 (hpx.1 g)) (Ev.pos (by omega) (Ev.bind hI ?_))))))
  rw [htz, show wrap64 ((at_ : Int) + ((wb key v).length : Int)) = ((at_ + (wb key v).length : Nat) : Int) by unfold wrap64; omega, wi1 (i := items.length) (n := 64) hi (by decide)]
  exact ho
 ·by_cases hl : key.length + 1 + v.length ≤ 1024
  ·have hp : ∃ t, key = 95 :: 95 :: t := Classical.byContradiction fun g => hf ⟨g, hl⟩
   exact Ev.neg (by omega) (Ev.pos (by omega) (Ev.pos (by decide) (Ev.pos (by omega) (Ev.pos (hpx.2 hp) (Ev.now _)))))
  ·exact Ev.pos (by omega) (Ev.now _)
end RE
namespace RF
open Cu EW RA RB RC RD RE
theorem nil_eq : ((strOfNums []).toList == ([] : List UInt8)) = true := beq_iff_eq.2 (toList_eq_nil.2 (size_str []))
theorem p_term (i : Nat) (hi : 6 < i) (s : ByteArray) (hs : s.size ≤ 1000000) (r : List Int) (hr : bytesOf s = 10 :: r) (c0 c1 c2 c3 c4 : Int) (tx : ByteArray) (items : List ByteArray) (x : Int × Int × Int × Int × Int × Int × Int) (hx : Ev (fun k => cursor_Parse.f k tx) x) :
  Ev (fun k => rdGo k i s c0 c1 c2 c3 c4 tx items) (if x.2.2.2.2.2.2 = 0 ∧ x.1 = c0 ∧ x.2.1 = c1 ∧ x.2.2.1 = c2 ∧ x.2.2.2.1 = c3 ∧ x.2.2.2.2.1 = c4 then (c0, c1, c2, c3, c4, x.2.2.2.2.2.1, items, strOfNums r, true) else rdZ) := by
 refine Ev.step (fun k => rdGo.eq_2 _ _ _ _ _ _ _ _ _ _) (Ev.bindc (line_at s (by omega) [] r hr (by simp)) (Ev.pos ⟨rfl, nil_eq, hi⟩ (Ev.bind hx (Ev.both (fun h => ?_) (fun h => ?_)))))
 ·rw [if_pos h]
  exact Ev.now _
 ·rw [if_neg h]
  exact Ev.now _
theorem joint (S : ByteArray) (hS : S.size ≤ 1000000) (tx : ByteArray) (htx : tx.size ≤ 10000000) (a b c d e f : Int) (hT : Text6 tx a b c d e f) : ∀ (q : Nat) (items : List ByteArray) (s : ByteArray) (at_ : Nat), q + items.length = 64 → at_ ≤ S.size → bytesOf s = (bytesOf S).drop at_ →
  (Ev (fun k => rdGo k (6 + items.length) s a b c d e tx items) rdZ ∧ Ev (fun k => logbookref32_Read.l0 k S (at_ : Int) items (items.length : Int) a b c d e f) rfZ) ∨
  ∃ (its : List ByteArray) (n : Nat), n ≤ S.size ∧ its.length ≤ 64 ∧ Ev (fun k => rdGo k (6 + items.length) s a b c d e tx items) (a, b, c, d, e, f, its, strOfNums ((bytesOf S).drop n), true) ∧ Ev (fun k => logbookref32_Read.l0 k S (at_ : Int) items (items.length : Int) a b c d e f) (a, b, c, d, e, f, its, (n : Int), true)
 | q, items, s, at_, hq, ha, hd => by
  have hsz : s.size ≤ 1000000 := by
   have z := congrArg List.length hd
   rw [List.length_drop, bytesOf_length, bytesOf_length] at z
   omega
  by_cases ht : items.length ≠ 0 ∧ ∃ r, bytesOf s = 10 :: r
  ·obtain ⟨h0, r, hr⟩ := ht
   obtain ⟨hn, hR⟩ := r_term S s hS at_ hd items (by omega) h0 r hr a b c d e f
   have hP := p_term (6 + items.length) (by omega) s hsz r hr a b c d e tx items _ (parse_yes tx htx a b c d e f hT)
   rw [if_pos ⟨rfl, rfl, rfl, rfl, rfl, rfl⟩] at hP
   refine .inr ⟨items, at_ + 1, hn, by omega, ?_, hR⟩
   rw [← List.drop_drop, ← hd, hr]
   exact hP
  ·have hnt : ∀ r, bytesOf s = 10 :: r → items.length = 0 := fun r hr => Classical.byContradiction fun g => ht ⟨g, r, hr⟩
   have hnt6 : ∀ r, bytesOf s = 10 :: r → 6 + items.length ≤ 6 := fun r hr => by
    have := hnt r hr
    omega
   rcases step_all s hsz with ⟨key, v, R, hg⟩ | hb
   ·obtain ⟨p1, p2⟩ := p_good (6 + items.length) (by omega) s hsz a b c d e tx items key v R hg hnt6
    obtain ⟨r1, r2, r3, r4⟩ := r_good S s hS at_ ha hd items (by omega) a b c d e f hnt hsz key v R hg
    by_cases hf : Fit key v
    ·match q, hq with
     | 0, hq =>
      refine .inl ⟨p2 (fun g => by have := g.2; omega), r3 hf _ (Ev.step (fun k => logbookref32_Read.l0.eq_2 _ _ _ _ _ _ _ _ _ _ _) (Ev.neg (by omega) (Ev.now _)))⟩
     | q + 1, hq =>
      have hlen : (items ++ [strOfNums (key ++ 61 :: v)]).length = items.length + 1 := by simp
      have hRb : bytesOf (strOfNums R) = R := bytes_str (good_bytes hg hsz).2.2.1
      have ih := joint S hS tx htx a b c d e f hT q (items ++ [strOfNums (key ++ 61 :: v)]) (strOfNums R) (at_ + (wb key v).length) (by omega) r1 (hRb.trans r2)
      rw [hlen] at ih
      rcases ih with ⟨i1, i2⟩ | ⟨its, n, i0, i00, i1, i2⟩
      ·exact .inl ⟨p1 ⟨hf, by omega⟩ _ i1, r3 hf _ i2⟩
      ·exact .inr ⟨its, n, i0, i00, p1 ⟨hf, by omega⟩ _ i1, r3 hf _ i2⟩
    ·exact .inl ⟨p2 (fun g => hf g.1), r4 hf⟩
   ·exact .inl ⟨p_bad _ (by omega) s hsz _ _ _ _ _ _ _ hb hnt6, r_bad S s hS at_ ha hd items (by omega) a b c d e f hnt hb⟩
theorem loop_no (tx : ByteArray) (htx : tx.size ≤ 10000000) (a b c d e : Int) (hT : ∀ f, ¬ Text6 tx a b c d e f) : ∀ (q : Nat) (items : List ByteArray) (s : ByteArray), q + items.length = 64 → s.size ≤ 1000000 → Ev (fun k => rdGo k (6 + items.length) s a b c d e tx items) rdZ
 | q, items, s, hq, hsz => by
  by_cases ht : items.length ≠ 0 ∧ ∃ r, bytesOf s = 10 :: r
  ·obtain ⟨h0, r, hr⟩ := ht
   by_cases hx : ∃ a b c d e f, Text6 tx a b c d e f
   ·obtain ⟨a', b', c', d', e', f', hx⟩ := hx
    have hP := p_term (6 + items.length) (by omega) s hsz r hr a b c d e tx items _ (parse_yes tx htx a' b' c' d' e' f' hx)
    rw [if_neg] at hP
    ·exact hP
    ·rintro ⟨_, g1, g2, g3, g4, g5⟩
     dsimp only at g1 g2 g3 g4 g5
     subst g1 g2 g3 g4 g5
     exact hT _ hx
   ·have hP := p_term (6 + items.length) (by omega) s hsz r hr a b c d e tx items _ (parse_no tx htx (fun a b c d e f g => hx ⟨a, b, c, d, e, f, g⟩))
    rw [if_neg (fun g => absurd g.1 (by decide))] at hP
    exact hP
  ·have hnt6 : ∀ r, bytesOf s = 10 :: r → 6 + items.length ≤ 6 := fun r hr => by
    have := Classical.byContradiction fun g => ht ⟨g, r, hr⟩
    omega
   rcases step_all s hsz with ⟨key, v, R, hg⟩ | hb
   ·obtain ⟨p1, p2⟩ := p_good (6 + items.length) (by omega) s hsz a b c d e tx items key v R hg hnt6
    have hgb := good_bytes hg hsz
    by_cases hf : Fit key v ∧ items.length < 64
    ·match q, hq with
     | 0, hq =>
      have := hf.2
      omega
     | q + 1, hq =>
      have hlen : (items ++ [strOfNums (key ++ 61 :: v)]).length = items.length + 1 := by simp
      have ih := loop_no tx htx a b c d e hT q (items ++ [strOfNums (key ++ 61 :: v)]) (strOfNums R) (by omega) (by rw [size_str]; have := hgb.2.2.2.1; omega)
      rw [hlen] at ih
      exact p1 hf _ ih
    ·exact p2 hf
   ·exact p_bad _ (by omega) s hsz _ _ _ _ _ _ _ hb hnt6
/-! ### the six lines ahead -/
def K (i : Nat) : List Int := bytesOf (tellKeys.getD i ⟨#[]⟩)
theorem K_facts : ∀ i : Fin 6, (61 : Int) ∉ K i.val ∧ (10 : Int) ∉ K i.val ∧ K i.val ≠ [] := by decide +kernel
def D (i : Nat) (n : Int) : List Int := if i = 3 ∨ i = 5 then hexL n else Num.dec n
theorem isX_print {x : Int} (h : isX x = true) : printB x = true ∧ x ≠ 10 := by
 have := isX_iff.1 h
 refine ⟨(printB_iff x).2 ?_, ?_⟩ <;> omega
theorem D_chars (i : Nat) (n : Int) (h : U64 n) : (D i n).all printB = true ∧ (10 : Int) ∉ D i n ∧ Bytes (D i n) ∧ (D i n).length ≤ 20 := by
 unfold D
 split
 ·refine ⟨List.all_eq_true.2 fun x hx => (isX_print (hexL_isX n x hx)).1, fun hx => (isX_print (hexL_isX n 10 hx)).2 rfl, isX_byte (hexL_isX n), by rw [hexL_len]; decide⟩
 ·have hb := decF_bytes 20 n h.1
  have hp : ∀ x ∈ Num.dec n, printB x = true ∧ x ≠ 10 := fun x hx => by
   have := hb x hx
   refine ⟨(printB_iff x).2 ?_, ?_⟩ <;> omega
  refine ⟨List.all_eq_true.2 fun x hx => (hp x hx).1, fun hx => (hp 10 hx).2 rfl, fun x hx => ?_, decF_len 20 n⟩
  have := hb x hx
  omega
theorem tell_yes (i : Nat) (n : Int) (h : U64 n) : tellV i (strOfNums (D i n)) = some (n, true) := by
 unfold tellV D
 by_cases hi : i = 3 ∨ i = 5
 ·rw [if_pos hi, if_pos hi, name_tells, nameS_yes h]
 ·rw [if_neg hi, if_neg hi, Num.number_yes n h.1 h.2]
theorem num_cases (v : ByteArray) : export_Number.f v = some (0, false) ∨ ∃ n, U64 n ∧ bytesOf v = Num.dec n ∧ export_Number.f v = some (n, true) := by
 by_cases h : ∃ n, 0 ≤ n ∧ n ≤ 18446744073709551615 ∧ Num.dec n = bytesOf v
 ·obtain ⟨n, h0, h1, hn⟩ := h
  refine .inr ⟨n, ⟨h0, h1⟩, hn.symm, ?_⟩
  have z := Num.number_yes n h0 h1
  rw [hn, str_bytes] at z
  exact z
 ·exact .inl (Num.number_no v fun n h0 h1 hn => h ⟨n, h0, h1, hn⟩)
theorem tell_any (i : Nat) (v : ByteArray) : (∃ n, tellV i v = some (n, false)) ∨ ∃ n, U64 n ∧ bytesOf v = D i n ∧ tellV i v = some (n, true) := by
 unfold tellV D
 by_cases hi : i = 3 ∨ i = 5
 ·rw [if_pos hi, name_tells]
  cases hq : nameS v with
  | mk n b =>
   cases b with
   | false => exact .inl ⟨n, rfl⟩
   | true =>
    obtain ⟨g1, g2⟩ := nameS_back hq
    exact .inr ⟨n, g1, by rw [if_pos hi]; exact g2, rfl⟩
 ·rw [if_neg hi]
  rcases num_cases v with h | ⟨n, h1, h2, h3⟩
  ·exact .inl ⟨0, h⟩
  ·exact .inr ⟨n, h1, by rw [if_neg hi]; exact h2, h3⟩
theorem key_str (i : Nat) : strOfNums (K i) = tellKeys.getD i ⟨#[]⟩ := str_bytes _
theorem line_i (i : Nat) (hi : i < 6) (s : ByteArray) (hs : s.size ≤ 1000000) (V R : List Int) (h : bytesOf s = (K i ++ 61 :: V) ++ 10 :: R) (hp : V.all printB = true) (h10 : (10 : Int) ∉ V) (c0 c1 c2 c3 c4 : Int) (tx : ByteArray) (out : rdOut) :
  (i = 0 → Ev (fun k => rdGo k 1 (strOfNums R) c0 c1 c2 c3 c4 (strOfNums V) []) out → Ev (fun k => rdGo k i s c0 c1 c2 c3 c4 tx []) out) ∧
  (∀ n, 0 < i → U64 n → V = D i n → Ev (fun k => rdGo k (i + 1) (strOfNums R) (if i = 5 then n else c0) (if i = 4 then n else c1) (if i = 3 then n else c2) (if i = 2 then n else c3) (if i = 1 then n else c4) tx []) out → Ev (fun k => rdGo k i s c0 c1 c2 c3 c4 tx []) out) := by
 obtain ⟨k1, k2, k3⟩ := K_facts ⟨i, hi⟩
 have hf := field_eq s (by omega) (K i) V R h (by
  intro g
  rcases List.mem_append.1 g with g | g
  ·exact k2 g
  ·rcases List.mem_cons.1 g with g | g
   ·exact absurd g (by decide)
   ·exact h10 g) k1
 rw [hp] at hf
 have hk : ((strOfNums (K i)).toList == (tellKeys.getD i ⟨#[]⟩).toList) = true := by rw [key_str, beq_iff_eq]
 refine ⟨fun h0 ho => ?_, fun n h0 hn hV ho => ?_⟩
 ·exact p_step i s hs _ _ _ _ _ _ _ _ (fun r _ => by omega) (Ev.bind hf (Ev.pos rfl (Ev.neg (by omega) (Ev.pos hk (Ev.pos h0 ho)))))
 ·subst hV
  exact p_step i s hs _ _ _ _ _ _ _ _ (fun r _ => by omega) (Ev.bind hf (Ev.pos rfl (Ev.neg (by omega) (Ev.pos hk (Ev.neg (by omega) (Ev.bindc (tell_yes i n hn) (Ev.pos rfl ho)))))))
theorem field_any (s : ByteArray) (hs : s.size ≤ 1000000) : ∃ (key v r : ByteArray) (ok : Bool), Ev (fun k => export_field.f k s) (key, v, r, ok) ∧ v.size ≤ s.size ∧ r.size ≤ s.size ∧ (ok = true → (∃ a, bytesOf s = (a ++ 61 :: bytesOf v) ++ 10 :: bytesOf r ∧ key = strOfNums a ∧ Bytes a ∧ (10 : Int) ∉ bytesOf v) ∨ (bytesOf v).all printB = false) := by
 by_cases h10 : (10 : Int) ∈ bytesOf s
 ·obtain ⟨l, r, h, hl⟩ := mem_split _ h10
  obtain ⟨hb, hr, _⟩ := two_bytes h
  have hz := two_size h
  by_cases h61 : (61 : Int) ∈ l
  ·obtain ⟨a, v, e, ha⟩ := mem_split _ h61
   subst e
   rw [List.length_append, List.length_cons] at hz
   have hv : Bytes v := fun x hx => hb x (by simp [hx])
   refine ⟨_, _, _, _, field_eq s (by omega) a v r h hl ha, by rw [size_str]; omega, by rw [size_str]; omega, fun _ => .inl ⟨a, ?_, rfl, fun x hx => hb x (by simp [hx]), ?_⟩⟩
   ·rw [bytes_str hv, bytes_str hr]
    exact h
   ·rw [bytes_str hv]
    exact fun g => hl (by simp [g])
  ·by_cases hne : l = []
   ·subst hne
    exact ⟨_, _, _, _, field_empty s (by omega) r h, Nat.zero_le _, Nat.zero_le _, fun g => by (cases g)⟩
   ·rcases field_bin s (by omega) l r h hl h61 hne with ⟨_, g⟩ | ⟨_, g⟩
    ·refine ⟨_, _, _, _, g, ?_, ?_, fun g => .inr ?_⟩
     ·rw [size_str, List.length_take, List.length_drop]; omega
     ·rw [size_str, List.length_drop]; omega
     ·rw [bytes_str (fun x hx => hr x (List.mem_of_mem_drop (List.mem_of_mem_take hx)))]
      cases hq : ((r.drop 8).take (leV (r.take 8)).toNat).all printB with
      | false => rfl
      | true => rw [hq] at g; cases g
    ·exact ⟨_, _, _, _, g, Nat.zero_le _, Nat.zero_le _, fun g => by (cases g)⟩
 ·exact ⟨_, _, _, _, field_no s h10, Nat.zero_le _, Nat.zero_le _, fun g => by (cases g)⟩
theorem line_any (i : Nat) (hi : i < 6) (s : ByteArray) (hs : s.size ≤ 1000000) : (∀ c0 c1 c2 c3 c4 tx, Ev (fun k => rdGo k i s c0 c1 c2 c3 c4 tx []) rdZ) ∨
  (i = 0 ∧ ∃ (v r : ByteArray), v.size ≤ s.size ∧ r.size ≤ s.size ∧ (bytesOf s = (K 0 ++ 61 :: bytesOf v) ++ 10 :: bytesOf r ∨ (bytesOf v).all printB = false) ∧ ∀ c0 c1 c2 c3 c4 tx out, Ev (fun k => rdGo k 1 r c0 c1 c2 c3 c4 v []) out → Ev (fun k => rdGo k i s c0 c1 c2 c3 c4 tx []) out) ∨
  (0 < i ∧ ∃ (n : Int) (r : ByteArray), U64 n ∧ r.size ≤ s.size ∧ bytesOf s = (K i ++ 61 :: D i n) ++ 10 :: bytesOf r ∧ ∀ c0 c1 c2 c3 c4 tx out, Ev (fun k => rdGo k (i + 1) r (if i = 5 then n else c0) (if i = 4 then n else c1) (if i = 3 then n else c2) (if i = 2 then n else c3) (if i = 1 then n else c4) tx []) out → Ev (fun k => rdGo k i s c0 c1 c2 c3 c4 tx []) out) := by
 obtain ⟨key, v, r, ok, hf, hvz, hrz, hok⟩ := field_any s hs
 have st : ∀ c0 c1 c2 c3 c4 tx out, Ev (fun k => (export_field.f k s).bind (pBody k i c0 c1 c2 c3 c4 tx [])) out → Ev (fun k => rdGo k i s c0 c1 c2 c3 c4 tx []) out := fun c0 c1 c2 c3 c4 tx out h => p_step i s hs _ _ _ _ _ _ _ _ (fun r _ => by omega) h
 cases ok with
 | false => exact .inl fun c0 c1 c2 c3 c4 tx => st _ _ _ _ _ _ _ (Ev.bind hf (Ev.neg (by simp) (Ev.now _)))
 | true =>
  by_cases hk : (key.toList == (tellKeys.getD i ⟨#[]⟩).toList) = true
  ·have hkk : key = tellKeys.getD i ⟨#[]⟩ := toList_inj (beq_iff_eq.1 hk)
   have form : ∀ a, key = strOfNums a → Bytes a → a = K i := fun a h1 h2 => by
    unfold K
    rw [← hkk, h1, bytes_str h2]
   by_cases h0 : i = 0
   ·refine .inr (.inl ⟨h0, v, r, hvz, hrz, ?_, fun c0 c1 c2 c3 c4 tx out ho => st _ _ _ _ _ _ _ (Ev.bind hf (Ev.pos rfl (Ev.neg (by omega) (Ev.pos hk (Ev.pos h0 ho)))))⟩)
    rcases hok rfl with ⟨a, g1, g2, g3, _⟩ | g
    ·rw [form a g2 g3, h0] at g1
     exact .inl g1
    ·exact .inr g
   ·rcases tell_any i v with ⟨n, hn⟩ | ⟨n, hn, hv, ht⟩
    ·exact .inl fun c0 c1 c2 c3 c4 tx => st _ _ _ _ _ _ _ (Ev.bind hf (Ev.pos rfl (Ev.neg (by omega) (Ev.pos hk (Ev.neg h0 (Ev.bindc hn (Ev.neg (by simp) (Ev.now _))))))))
    ·refine .inr (.inr ⟨by omega, n, r, hn, hrz, ?_, fun c0 c1 c2 c3 c4 tx out ho => st _ _ _ _ _ _ _ (Ev.bind hf (Ev.pos rfl (Ev.neg (by omega) (Ev.pos hk (Ev.neg h0 (Ev.bindc ht (Ev.pos rfl ho)))))))⟩)
     rcases hok rfl with ⟨a, g1, g2, g3, _⟩ | g
     ·rw [form a g2 g3, hv] at g1
      exact g1
     ·rw [hv, (D_chars i n hn).1] at g
      cases g
  ·exact .inl fun c0 c1 c2 c3 c4 tx => st _ _ _ _ _ _ _ (Ev.bind hf (Ev.pos rfl (Ev.neg (by omega) (Ev.neg hk (Ev.now _)))))
end RF
namespace RG
open Cu EW RA RB RC RD RE RF
def tailL (a b c d e : Int) (R : List Int) : List Int := (K 1 ++ 61 :: D 1 e) ++ 10 :: ((K 2 ++ 61 :: D 2 d) ++ 10 :: ((K 3 ++ 61 :: D 3 c) ++ 10 :: ((K 4 ++ 61 :: D 4 b) ++ 10 :: ((K 5 ++ 61 :: D 5 a) ++ 10 :: R))))
def frontL (a b c d e f : Int) (R : List Int) : List Int := (K 0 ++ 61 :: textL a b c d e f) ++ 10 :: tailL a b c d e R
def G (S : ByteArray) : Prop := ∃ a b c d e f R, U64 a ∧ U64 b ∧ U64 c ∧ U64 d ∧ U64 e ∧ U64 f ∧ bytesOf S = frontL a b c d e f R
theorem piece_print {key : Int} {l : List Int} (hk : printB key = true ∧ key ≠ 10) (h : ∀ x ∈ l, isX x = true) : ∀ x ∈ pieceK key l, printB x = true ∧ x ≠ 10 := by
 intro x hx
 unfold pieceK at hx
 rcases List.mem_cons.1 hx with rfl | hx
 ·exact hk
 rcases List.mem_cons.1 hx with rfl | hx
 ·decide
 ·exact isX_print (h x hx)
theorem app_print {A B : List Int} (hA : ∀ x ∈ A, printB x = true ∧ x ≠ 10) (hB : ∀ x ∈ B, printB x = true ∧ x ≠ 10) : ∀ x ∈ A ++ 59 :: B, printB x = true ∧ x ≠ 10 := by
 intro x hx
 rcases List.mem_append.1 hx with hx | hx
 ·exact hA x hx
 rcases List.mem_cons.1 hx with rfl | hx
 ·decide
 ·exact hB x hx
theorem textL_print (a b c d e f : Int) : ∀ x ∈ textL a b c d e f, printB x = true ∧ x ≠ 10 := by
 unfold textL
 exact app_print (piece_print (by decide) (hexL_isX _)) (app_print (piece_print (by decide) (hexS_isX _)) (app_print (piece_print (by decide) (hexL_isX _)) (app_print (piece_print (by decide) (hexS_isX _)) (app_print (piece_print (by decide) (hexS_isX _)) (piece_print (by decide) (hexS_isX _))))))
theorem textL_all (a b c d e f : Int) : (textL a b c d e f).all printB = true := List.all_eq_true.2 fun x hx => (textL_print a b c d e f x hx).1
theorem textL_no10 (a b c d e f : Int) : (10 : Int) ∉ textL a b c d e f := fun h => (textL_print a b c d e f 10 h).2 rfl
theorem text6_str {a b c d e f : Int} (ha : U64 a) (hb : U64 b) (hc : U64 c) (hd : U64 d) (he : U64 e) (hf : U64 f) : Text6 (strOfNums (textL a b c d e f)) a b c d e f := ⟨ha, hb, hc, hd, he, hf, bytes_str (textL_bytes a b c d e f)⟩
/-- The program behind six lines that are right. -/
theorem p_yes (S : ByteArray) (hS : S.size ≤ 1000000) (a b c d e f : Int) (R : List Int) (ha : U64 a) (hb : U64 b) (hc : U64 c) (hd : U64 d) (he : U64 e) (hf : U64 f) (h : bytesOf S = frontL a b c d e f R) (out : rdOut)
  (ho : Ev (fun k => rdGo k 6 (strOfNums R) a b c d e (strOfNums (textL a b c d e f)) []) out) : Ev (fun k => export_Read.f k S) out := by
 have nx : ∀ (i : Nat) (s : ByteArray) (l r : List Int), s.size ≤ 1000000 → bytesOf s = l ++ 10 :: r → bytesOf (strOfNums r) = r ∧ (strOfNums r).size ≤ 1000000 := fun i s l r hs g => by
  have z := two_size g
  exact ⟨bytes_str (two_bytes g).2.1, by rw [size_str]; omega⟩
 unfold frontL tailL at h
 obtain ⟨b0, z0⟩ := nx 0 S _ _ hS h
 obtain ⟨b1, z1⟩ := nx 1 _ _ _ z0 b0
 obtain ⟨b2, z2⟩ := nx 2 _ _ _ z1 b1
 obtain ⟨b3, z3⟩ := nx 3 _ _ _ z2 b2
 obtain ⟨b4, z4⟩ := nx 4 _ _ _ z3 b3
 have q0 := D_chars 1 e he
 have q1 := D_chars 2 d hd
 have q2 := D_chars 3 c hc
 have q3 := D_chars 4 b hb
 have q4 := D_chars 5 a ha
 refine (line_i 0 (by decide) S hS _ _ h (textL_all a b c d e f) (textL_no10 a b c d e f) 0 0 0 0 0 _ out).1 rfl ?_
 refine (line_i 1 (by decide) _ z0 _ _ b0 q0.1 q0.2.1 0 0 0 0 0 _ out).2 e (by decide) he rfl ?_
 refine (line_i 2 (by decide) _ z1 _ _ b1 q1.1 q1.2.1 0 0 0 0 e _ out).2 d (by decide) hd rfl ?_
 refine (line_i 3 (by decide) _ z2 _ _ b2 q2.1 q2.2.1 0 0 0 d e _ out).2 c (by decide) hc rfl ?_
 refine (line_i 4 (by decide) _ z3 _ _ b3 q3.1 q3.2.1 0 0 c d e _ out).2 b (by decide) hb rfl ?_
 exact (line_i 5 (by decide) _ z4 _ _ b4 q4.1 q4.2.1 0 b c d e _ out).2 a (by decide) ha rfl ho
/-- The program at any text. -/
theorem p_no (S : ByteArray) (hS : S.size ≤ 1000000) (hG : ¬ G S) : Ev (fun k => export_Read.f k S) rdZ := by
 rcases line_any 0 (by decide) S hS with h | ⟨_, v, r0, hv, z0, hl, h0⟩ | ⟨h, _⟩
 ·exact h 0 0 0 0 0 ⟨#[]⟩
 ·refine h0 0 0 0 0 0 ⟨#[]⟩ _ ?_
  rcases line_any 1 (by decide) r0 (by omega) with h | ⟨h, _⟩ | ⟨_, e, r1, he, z1, l1, h1⟩
  ·exact h _ _ _ _ _ _
  ·cases h
  refine h1 _ _ _ _ _ _ _ ?_
  rcases line_any 2 (by decide) r1 (by omega) with h | ⟨h, _⟩ | ⟨_, d, r2, hd, z2, l2, h2⟩
  ·exact h _ _ _ _ _ _
  ·cases h
  refine h2 _ _ _ _ _ _ _ ?_
  rcases line_any 3 (by decide) r2 (by omega) with h | ⟨h, _⟩ | ⟨_, c, r3, hc, z3, l3, h3⟩
  ·exact h _ _ _ _ _ _
  ·cases h
  refine h3 _ _ _ _ _ _ _ ?_
  rcases line_any 4 (by decide) r3 (by omega) with h | ⟨h, _⟩ | ⟨_, b, r4, hb, z4, l4, h4⟩
  ·exact h _ _ _ _ _ _
  ·cases h
  refine h4 _ _ _ _ _ _ _ ?_
  rcases line_any 5 (by decide) r4 (by omega) with h | ⟨h, _⟩ | ⟨_, a, r5, ha, z5, l5, h5⟩
  ·exact h _ _ _ _ _ _
  ·cases h
  refine h5 _ _ _ _ _ _ _ ?_
  refine loop_no v (by omega) a b c d e (fun f hT => hG ?_) 64 [] r5 rfl (by omega)
  have hv2 : bytesOf v = textL a b c d e f := hT.2.2.2.2.2.2
  refine ⟨a, b, c, d, e, f, bytesOf r5, ha, hb, hc, hd, he, hT.2.2.2.2.2.1, ?_⟩
  rcases hl with hl | hl
  ·rw [hl, hv2, l1, l2, l3, l4, l5]
   rfl
  ·rw [hv2, textL_all] at hl
   cases hl
 ·exact absurd h (by decide)
/-! ### the reference's front -/
theorem lits : bytesOf (⟨#[95, 95, 67, 85, 82, 83, 79, 82, 61]⟩ : ByteArray) = K 0 ++ [61] ∧ bytesOf (⟨#[10, 95, 95, 82, 69, 65, 76, 84, 73, 77, 69, 95, 84, 73, 77, 69, 83, 84, 65, 77, 80, 61]⟩ : ByteArray) = 10 :: (K 1 ++ [61]) ∧ bytesOf (⟨#[10, 95, 95, 77, 79, 78, 79, 84, 79, 78, 73, 67, 95, 84, 73, 77, 69, 83, 84, 65, 77, 80, 61]⟩ : ByteArray) = 10 :: (K 2 ++ [61]) ∧ bytesOf (⟨#[10, 95, 95, 66, 79, 79, 84, 95, 73, 68, 61]⟩ : ByteArray) = 10 :: (K 3 ++ [61]) ∧ bytesOf (⟨#[10, 95, 95, 83, 69, 81, 78, 85, 77, 61]⟩ : ByteArray) = 10 :: (K 4 ++ [61]) ∧ bytesOf (⟨#[10, 95, 95, 83, 69, 81, 78, 85, 77, 95, 73, 68, 61]⟩ : ByteArray) = 10 :: (K 5 ++ [61]) := by decide +kernel
theorem front_len (a b c d e f : Int) (ha : U64 a) (hb : U64 b) (hc : U64 c) (hd : U64 d) (he : U64 e) (hf : U64 f) (R : List Int) : 9 + (textL a b c d e f).length < (frontL a b c d e f []).length ∧ (frontL a b c d e f []).length ≤ 600 ∧ frontL a b c d e f R = frontL a b c d e f [] ++ R ∧ Bytes (frontL a b c d e f []) := by
 have t := textL_len a b c d e f
 have q0 := D_chars 1 e he
 have q1 := D_chars 2 d hd
 have q2 := D_chars 3 c hc
 have q3 := D_chars 4 b hb
 have q4 := D_chars 5 a ha
 have kl : (K 0).length = 8 ∧ (K 1).length = 20 ∧ (K 2).length = 21 ∧ (K 3).length = 9 ∧ (K 4).length = 8 ∧ (K 5).length = 11 := by decide +kernel
 refine ⟨?_, ?_, ?_, ?_⟩
 ·unfold frontL tailL
  simp only [List.length_append, List.length_cons, List.length_nil]
  omega
 ·unfold frontL tailL
  simp only [List.length_append, List.length_cons, List.length_nil]
  omega
 ·unfold frontL tailL
  simp
 ·have hK : ∀ i, Bytes (K i) := fun i => bytesOf_bytes _
  unfold frontL tailL
  have cb : ∀ {l r : List Int} {x : Int}, Bytes l → (0 ≤ x ∧ x ≤ 255) → Bytes r → Bytes (l ++ x :: r) := fun hl hx hr y hy => by
   rcases List.mem_append.1 hy with hy | hy
   ·exact hl y hy
   rcases List.mem_cons.1 hy with rfl | hy
   ·exact hx
   ·exact hr y hy
  exact cb (cb (hK 0) (by decide) (textL_bytes _ _ _ _ _ _)) (by decide) (cb (cb (hK 1) (by decide) q0.2.2.1) (by decide) (cb (cb (hK 2) (by decide) q1.2.2.1) (by decide) (cb (cb (hK 3) (by decide) q2.2.2.1) (by decide) (cb (cb (hK 4) (by decide) q3.2.2.1) (by decide) (cb (cb (hK 5) (by decide) q4.2.2.1) (by decide) (fun x hx => absurd hx (by simp)))))))
theorem ref_entry (a b c d e f : Int) (ha : U64 a) (hb : U64 b) (hc : U64 c) (hd : U64 d) (he : U64 e) (hf : U64 f) : Ev (fun k => logbookref32_Entry.f k a b c d e f []) (strOfNums (frontL a b c d e f [] ++ [10])) := by
 have t := textL_len a b c d e f
 have q0 := D_chars 1 e he
 have q1 := D_chars 2 d hd
 have q2 := D_chars 3 c hc
 have q3 := D_chars 4 b hb
 have q4 := D_chars 5 a ha
 have d1 : D 1 e = Num.dec e := rfl
 have d2 : D 2 d = Num.dec d := rfl
 have d3 : D 3 c = hexL c := rfl
 have d4 : D 4 b = Num.dec b := rfl
 have d5 : D 5 a = hexL a := rfl
 rw [d1] at q0
 rw [d2] at q1
 rw [d3] at q2
 rw [d4] at q3
 rw [d5] at q4
 have z0 : (strOfNums (textL a b c d e f)).size ≤ 113 := by rw [size_str]; exact t
 have z1 : (strOfNums (Num.dec e)).size ≤ 20 := by rw [size_str]; exact q0.2.2.2
 have z2 : (strOfNums (Num.dec d)).size ≤ 20 := by rw [size_str]; exact q1.2.2.2
 have z3 : (strOfNums (hexL c)).size ≤ 20 := by rw [size_str]; exact q2.2.2.2
 have z4 : (strOfNums (Num.dec b)).size ≤ 20 := by rw [size_str]; exact q3.2.2.2
 have z5 : (strOfNums (hexL a)).size ≤ 20 := by rw [size_str]; exact q4.2.2.2
 obtain ⟨X, hX⟩ : ∃ X, X = (((((((((((((⟨#[95, 95, 67, 85, 82, 83, 79, 82, 61]⟩ : ByteArray) ++ strOfNums (textL a b c d e f)) ++ (⟨#[10, 95, 95, 82, 69, 65, 76, 84, 73, 77, 69, 95, 84, 73, 77, 69, 83, 84, 65, 77, 80, 61]⟩ : ByteArray)) ++ strOfNums (Num.dec e)) ++ (⟨#[10, 95, 95, 77, 79, 78, 79, 84, 79, 78, 73, 67, 95, 84, 73, 77, 69, 83, 84, 65, 77, 80, 61]⟩ : ByteArray)) ++ strOfNums (Num.dec d)) ++ (⟨#[10, 95, 95, 66, 79, 79, 84, 95, 73, 68, 61]⟩ : ByteArray)) ++ strOfNums (hexL c)) ++ (⟨#[10, 95, 95, 83, 69, 81, 78, 85, 77, 61]⟩ : ByteArray)) ++ strOfNums (Num.dec b)) ++ (⟨#[10, 95, 95, 83, 69, 81, 78, 85, 77, 95, 73, 68, 61]⟩ : ByteArray)) ++ strOfNums (hexL a)) ++ (⟨#[10]⟩ : ByteArray)) := ⟨_, rfl⟩
 have hXb : bytesOf X = frontL a b c d e f [] := by
  obtain ⟨l0, l1, l2, l3, l4, l5⟩ := lits
  rw [hX]
  simp only [bytesOf_append, l0, l1, l2, l3, l4, l5, bytes_str (textL_bytes a b c d e f), bytes_str q0.2.2.1, bytes_str q1.2.2.1, bytes_str q2.2.2.1, bytes_str q3.2.2.1, bytes_str q4.2.2.1]
  unfold frontL tailL
  rw [d1, d2, d3, d4, d5, show bytesOf (⟨#[10]⟩ : ByteArray) = [10] from rfl]
  simp
 have hXz : X.size ≤ 600 := by
  rw [← bytesOf_length, hXb]
  exact (front_len a b c d e f ha hb hc hd he hf []).2.1
 refine Ev.bind (reftext_tells a b c d e f ha hb hc hd he hf) (Ev.pos (by omega) (Ev.pos (by omega) (Ev.bind (Num.ref_decimal e he.1 he.2) (Ev.pos (by omega) (Ev.pos (by omega) (Ev.bind (Num.ref_decimal d hd.1 hd.2) (Ev.pos (by omega) (Ev.pos (by omega) (Ev.bind (refhex_tells c hc) (Ev.pos (by omega) (Ev.pos (by omega) (Ev.bind (Num.ref_decimal b hb.1 hb.2) (Ev.pos (by omega) (Ev.pos (by omega) (Ev.bind (refhex_tells a ha) (Ev.pos (by omega) (Ev.pos (by omega) ?_)))))))))))))))))
 rw [← hX]
 refine Ev.step (fun k => logbookref32_Entry.l0.eq_2 _ _ _ _) (Ev.neg (by simp) (Ev.pos (by omega) (Ev.eq (Ev.now _) ?_)))
 apply bytesOf_inj
 rw [bytesOf_append, hXb, bytes_str (fun x hx => ?_)]
 ·rfl
 ·rcases List.mem_append.1 hx with hx | hx
  ·exact (front_len a b c d e f ha hb hc hd he hf []).2.2.2 x hx
  ·rw [List.mem_singleton] at hx
   omega
theorem u0 : U64 0 := ⟨by decide, by decide⟩
theorem r_yes (S : ByteArray) (hS : S.size ≤ 1000000) (a b c d e f : Int) (R : List Int) (ha : U64 a) (hb : U64 b) (hc : U64 c) (hd : U64 d) (he : U64 e) (hf : U64 f) (h : bytesOf S = frontL a b c d e f R) (out : rfOut)
  (ho : Ev (fun k => logbookref32_Read.l0 k S (((frontL a b c d e f []).length : Nat) : Int) [] 0 a b c d e f) out) : Ev (fun k => logbookref32_Read.f k S) out := by
 obtain ⟨f1, f2, f3, f4⟩ := front_len a b c d e f ha hb hc hd he hf R
 have hz : (frontL a b c d e f []).length + R.length = S.size := by
  rw [← bytesOf_length, h, f3, List.length_append]
 have hK0 : K 0 = [95, 95, 67, 85, 82, 83, 79, 82] := by decide +kernel
 have h0 : bytesOf S = (K 0 ++ 61 :: textL a b c d e f) ++ 10 :: tailL a b c d e R := h
 have ht := till_yes S (by omega) 10 _ _ h0 (fun g => by
  rcases List.mem_append.1 g with g | g
  ·exact (K_facts ⟨0, by decide⟩).2.1 g
  ·rcases List.mem_cons.1 g with g | g
   ·exact absurd g (by decide)
   ·exact textL_no10 _ _ _ _ _ _ g)
 have hl : (K 0 ++ 61 :: textL a b c d e f).length = 9 + (textL a b c d e f).length := by
  rw [List.length_append, List.length_cons, hK0]
  simp only [List.length_cons, List.length_nil]
  omega
 rw [hl] at ht
 have c9 : ((S.extract 0 9).toList != ([95, 95, 67, 85, 82, 83, 79, 82, 61] : List UInt8)) = false := by
  rw [bne_eq_false_iff_eq, show ([95, 95, 67, 85, 82, 83, 79, 82, 61] : List UInt8) = (⟨#[95, 95, 67, 85, 82, 83, 79, 82, 61]⟩ : ByteArray).toList by rw [ByteArray.toList_eq], toList_iff, bytesOf_extract, List.drop_zero, h0, hK0]
  rfl
 have hp : S.extract 9 (((9 + (textL a b c d e f).length : Nat) : Int)).toNat = strOfNums (textL a b c d e f) := by
  rw [Int.toNat_natCast]
  apply bytesOf_inj
  rw [bytesOf_extract, ← hl, h0, List.take_left, bytes_str (textL_bytes _ _ _ _ _ _), hK0]
  rfl
 have hE := ref_entry a b c d e f ha hb hc hd he hf
 have hEz : (strOfNums (frontL a b c d e f [] ++ [10])).size = (frontL a b c d e f []).length + 1 := by
  rw [size_str, List.length_append]
  rfl
 have w : wrap64 ((((frontL a b c d e f []).length + 1 : Nat) : Int) - 1) = (((frontL a b c d e f []).length : Nat) : Int) := by
  unfold wrap64
  omega
 have eqf : ((S.extract 0 ((((frontL a b c d e f []).length : Nat) : Int)).toNat).toList != ((strOfNums (frontL a b c d e f [] ++ [10])).extract 0 ((((frontL a b c d e f []).length : Nat) : Int)).toNat).toList) = false := by
  rw [bne_eq_false_iff_eq, toList_iff, Int.toNat_natCast, bytesOf_extract, bytesOf_extract, List.drop_zero, List.drop_zero, h, f3, List.take_left, bytes_str (fun x hx => ?_), List.take_left]
  rcases List.mem_append.1 hx with hx | hx
  ·exact f4 x hx
  ·rw [List.mem_singleton] at hx
   omega
 refine Ev.bind ht (Ev.neg (by omega) (Ev.pos (by decide) (Ev.pos (by omega) ?_)))
 rw [c9]
 refine Ev.step (fun k => logbookref32_Read.j0.eq_2 _ _ _ _) (Ev.neg (by decide) (Ev.pos (by omega) (Ev.pos (by omega) ?_)))
 rw [hp]
 refine Ev.bind (ref_yes _ (by rw [size_str]; have := textL_len a b c d e f; omega) a b c d e f (text6_str ha hb hc hd he hf)) (Ev.bind hE (Ev.pos rfl ?_))
 rw [hEz, w]
 refine Ev.neg (by omega) (Ev.pos (by omega) (Ev.pos (by omega) (Ev.pos (by omega) ?_)))
 rw [eqf]
 exact Ev.step (fun k => logbookref32_Read.j1.eq_2 _ _ _ _ _ _ _ _ _ _) (Ev.neg (by decide) ho)
end RG
end Go.Proofs.YtbbegchdlkmebaaDoor.Pure
