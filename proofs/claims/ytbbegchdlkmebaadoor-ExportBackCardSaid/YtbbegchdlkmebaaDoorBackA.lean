/- Entries, written one behind the other, and read again: in plain Lean. -/

import Derived.Test.YtbbegchdlkmebaaDoorBackBase
import Derived.Test.YtbbegchdlkmebaaDoorHex
import Derived.Test.YtbbegchdlkmebaaDoorCut
import Derived.Test.YtbbegchdlkmebaaDoorDec
import Derived.Test.YtbbegchdlkmebaaDoorStr
import Derived.Test.YtbbegchdlkmebaaDoorEvs
namespace Go.Proofs.YtbbegchdlkmebaaDoor.Pure
open Go.RowKit Go.Proofs.YtbbegchdlkmebaaDoor.PExportBack Go.Proofs.YtbbegchdlkmebaaDoorW.PrintWords Go.Proofs.YtbbegchdlkmebaaDoorW.PrintLast Go.Proofs.YtbbegchdlkmebaaDoorW.PrintMore Go.Proofs.YtbbegchdlkmebaaDoor.Evs Go.Proofs.YtbbegchdlkmebaaDoor.Str Go.Proofs.YtbbegchdlkmebaaDoor.Conv Go.Proofs.YtbbegchdlkmebaaDoor.Hex Go.Proofs.YtbbegchdlkmebaaDoor.Cut Go.Proofs.YtbbegchdlkmebaaDoor.Dec
set_option linter.unusedVariables false
set_option linter.unusedSimpArgs false
namespace BA
open Cu EW RB RP
/-! ### what is written of an item, and read again -/
theorem leV_leGo {n : Int} (h0 : 0 ≤ n) (h1 : n ≤ 18446744073709551615) : leV (leGo 8 n) = n := by
  simp only [leGo, leV, List.nil_append, List.cons_append]
  omega
abbrev Itm : Type := List Int × List Int
def X (p : Itm) : ByteArray := strOfNums (p.1 ++ 61 :: p.2)
def Ok (p : Itm) : Prop := Bytes p.1 ∧ Bytes p.2 ∧ nameV (strOfNums p.1) = true ∧ Fit p.1 p.2
theorem ok_bytes {p : Itm} (h : Ok p) : Bytes (p.1 ++ 61 :: p.2) := fun x hx => by
  simp only [List.mem_append, List.mem_cons] at hx
  rcases hx with g | rfl | g
  · exact h.1 x g
  · omega
  · exact h.2.1 x g
theorem idx_key {key v : List Int} (h : (61 : Int) ∉ key) : idxE (key ++ 61 :: v) = (key.length : Int) := by
  have e1 : (key ++ 61 :: v).getD key.length 0 = 61 := by
    rw [List.getD_eq_getElem?_getD, List.getElem?_append_right (Nat.le_refl _), Nat.sub_self]
    rfl
  have hl : key.length < (key ++ 61 :: v).length := by
    rw [List.length_append, List.length_cons]
    omega
  rcases idxE_cases (key ++ 61 :: v) with ⟨_, h2⟩ | ⟨m, h1, h2, h3, h4⟩
  · exact absurd e1 (h2 _ hl)
  · rw [h1]
    rcases Nat.lt_trichotomy m key.length with g | g | g
    · exfalso
      rw [List.getD_eq_getElem?_getD, List.getElem?_append_left g, List.getElem?_eq_getElem g] at h3
      exact h (by rw [← show key[m] = 61 from h3]; exact List.getElem_mem g)
    · rw [g]
    · exact absurd e1 (h4 _ g)
theorem item_f {p : Itm} (h : Ok p) : export_Item.f (X p) = some (strOfNums (wb p.1 p.2)) := by
  obtain ⟨key, v⟩ := p
  obtain ⟨hk, hv, hn, hf⟩ := h
  have h61 := (name_ok hk hn).1
  have hB : Bytes (key ++ 61 :: v) := ok_bytes (p := (key, v)) ⟨hk, hv, hn, hf⟩
  have hbs := bytes_str hB
  have hsz : (strOfNums (key ++ 61 :: v)).size = key.length + 1 + v.length := by
    rw [size_str, List.length_append, List.length_cons]
    omega
  have hfl : key.length + 1 + v.length ≤ 1024 := hf.2
  have hsp := split_hit (strOfNums (key ++ 61 :: v)) (by omega) key.length (by rw [hbs]; exact idx_key h61) (by omega)
  have hx1 : (strOfNums (key ++ 61 :: v)).extract 0 key.length = strOfNums key := by
    apply bytesOf_inj
    rw [bytesOf_extract, hbs, bytes_str hk, List.drop_zero, List.take_left]
  have hx2 : (strOfNums (key ++ 61 :: v)).extract (key.length + 1) (strOfNums (key ++ 61 :: v)).size = strOfNums v := by
    apply bytesOf_inj
    rw [bytesOf_extract, hbs, bytes_str hv, List.take_of_length_le (by rw [size_str]; exact Nat.le_refl _), ← List.drop_drop, List.drop_left]
    rfl
  unfold splitV at hsp
  rw [hx1, hx2, if_pos hn] at hsp
  have hp := printable_f v hv (by omega)
  unfold export_Item.f X wb
  rw [hsp]
  simp only [Option.bind_some]
  rw [if_pos trivial, hp]
  simp only [Option.bind_some]
  cases hq : v.all printB with
  | true =>
    rw [if_pos rfl, if_pos (by omega), if_pos rfl, show (⟨#[10]⟩ : ByteArray) = strOfNums [10] from rfl, str_append]
    simp
  | false =>
    have kz := size_str key
    have vz := size_str v
    have hz := le_size (v.length : Int)
    rw [if_neg (by decide), if_pos (by omega), if_pos (by omega), vz, le_tells (v.length : Int) (by omega) (by omega)]
    simp only [Option.bind_some]
    rw [if_pos (by omega), if_pos (by omega), if_pos (by omega), if_neg (by decide), show (⟨#[10]⟩ : ByteArray) = strOfNums [10] from rfl, str_append, str_append, str_append, str_append]
    simp
theorem wb_bytes2 {p : Itm} (h : Ok p) : Bytes (wb p.1 p.2) := wb_bytes h.1 h.2.1
theorem wb_len {p : Itm} (h : Ok p) : (wb p.1 p.2).length ≤ 1034 := by
  have := h.2.2.2.2
  unfold wb
  split <;> simp [leGo_len] <;> omega
theorem take_app {α : Type} (a b : List α) (n : Nat) (h : a.length = n) : (a ++ b).take n = a := by
  subst h
  exact List.take_left
theorem drop_app {α : Type} (a b : List α) (n : Nat) (h : a.length = n) : (a ++ b).drop n = b := by
  subst h
  exact List.drop_left
theorem field_wb (s : ByteArray) (hs : s.size ≤ 1000000) (p : Itm) (hp : Ok p) (R : List Int) (h : bytesOf s = wb p.1 p.2 ++ R) : Ev (fun k => export_field.f k s) (strOfNums p.1, strOfNums p.2, strOfNums R, true) := by
  obtain ⟨key, v⟩ := p
  obtain ⟨hk, hv, hn, hf⟩ := hp
  obtain ⟨h61, h10, hne⟩ := name_ok hk hn
  unfold wb at h
  dsimp only at h ⊢
  cases hq : v.all printB with
  | true =>
    rw [if_pos hq] at h
    have hv10 : (10 : Int) ∉ v := fun g => by
      have := List.all_eq_true.1 hq 10 g
      exact absurd this (by decide)
    have h' : bytesOf s = (key ++ 61 :: v) ++ 10 :: R := by rw [h]; simp
    have z := field_eq s (by omega) key v R h' (fun g => by
      rcases List.mem_append.1 g with g | g
      · exact h10 g
      · rcases List.mem_cons.1 g with g | g
        · exact absurd g (by decide)
        · exact hv10 g) h61
    rw [hq] at z
    exact z
  | false =>
    rw [if_neg (by rw [hq]; decide)] at h
    have hvl : v.length ≤ 1024 := by
      have z : key.length + 1 + v.length ≤ 1024 := hf.2
      omega
    have h' : bytesOf s = key ++ 10 :: (leGo 8 (v.length : Int) ++ (v ++ 10 :: R)) := by rw [h]; simp
    have h8 : (leGo 8 (v.length : Int)).length = 8 := leGo_len 8 _
    have t8 : (leGo 8 (v.length : Int) ++ (v ++ 10 :: R)).take 8 = leGo 8 (v.length : Int) := take_app _ _ 8 h8
    have d8 : (leGo 8 (v.length : Int) ++ (v ++ 10 :: R)).drop 8 = v ++ 10 :: R := drop_app _ _ 8 h8
    have hlv : leV (leGo 8 (v.length : Int)) = (v.length : Int) := leV_leGo (by omega) (by omega)
    have hbk : binOk (leGo 8 (v.length : Int) ++ (v ++ 10 :: R)) := by
      unfold binOk
      rw [t8, hlv, Int.toNat_natCast]
      refine ⟨by rw [List.length_append, h8]; omega, by omega, by rw [List.length_append, h8, List.length_append, List.length_cons]; omega, ?_⟩
      rw [List.getD_eq_getElem?_getD, List.getElem?_append_right (by rw [h8]; omega), h8, List.getElem?_append_right (by omega), show 8 + v.length - 8 - v.length = 0 by omega]
      rfl
    rcases field_bin s (by omega) key _ h' h10 h61 hne with ⟨_, z⟩ | ⟨g, _⟩
    · rw [t8, hlv, Int.toNat_natCast, d8, take_app v _ _ rfl, hq] at z
      have hR : (leGo 8 (v.length : Int) ++ (v ++ 10 :: R)).drop (9 + v.length) = R := by
        rw [show 9 + v.length = 8 + (v.length + 1) by omega, ← List.drop_drop, d8, ← List.drop_drop, drop_app v _ _ rfl]
        rfl
      rw [hR] at z
      exact z
    · exact absurd hbk g
theorem p_item (i : Nat) (hi : 6 ≤ i) (s : ByteArray) (hs : s.size ≤ 1000000) (c0 c1 c2 c3 c4 : Int) (tx : ByteArray) (items : List ByteArray) (p : Itm) (hp : Ok p) (R : List Int) (h : bytesOf s = wb p.1 p.2 ++ R) (hl : items.length < 64) (out : rdOut)
    (ho : Ev (fun k => rdGo k (i + 1) (strOfNums R) c0 c1 c2 c3 c4 tx (items ++ [X p])) out) : Ev (fun k => rdGo k i s c0 c1 c2 c3 c4 tx items) out := by
  have hf := field_wb s hs p hp R h
  obtain ⟨b, hpx, hb⟩ := prefix_tells (strOfNums p.1)
  rw [bytes_str hp.1] at hb
  obtain ⟨h61, h10, hne⟩ := name_ok hp.1 hp.2.2.1
  have e1 : (strOfNums p.1).size = p.1.length := size_str p.1
  have e2 : (strOfNums p.2).size = p.2.length := size_str p.2
  have hfl : p.1.length + 1 + p.2.length ≤ 1024 := hp.2.2.2.2
  have ex : (strOfNums p.1 ++ (⟨#[61]⟩ : ByteArray)) ++ strOfNums p.2 = X p := by
    rw [show (⟨#[61]⟩ : ByteArray) = strOfNums [61] from rfl, str_append, str_append]
    unfold X
    simp
  have hnt : ∀ r, bytesOf s = 10 :: r → i ≤ 6 := fun r hr => by
    exfalso
    rw [h] at hr
    match hk : p.1, hne with
    | c :: t, _ =>
      unfold wb at hr
      rw [hk] at hr
      have : c = 10 := by
        split at hr <;> (simp only [List.cons_append] at hr; injection hr)
      exact h10 (by rw [hk, this]; simp)
  refine p_step i s hs _ _ _ _ _ _ _ _ hnt (Ev.bind hf (Ev.pos rfl (Ev.pos hi (Ev.bindc (name_f _) (Ev.bindc hpx (Ev.pos (by show (strOfNums p.1).size + (strOfNums p.2).size ≤ 1000000000; omega) (Ev.pos ⟨hp.2.2.1, bool_no hb hp.2.2.2.1, hl, by show (strOfNums p.1).size + 1 + (strOfNums p.2).size ≤ 1024; omega⟩ ?_)))))))
  dsimp only
  rw [ex]
  exact ho
def wbs : List Itm → List Int
  | [] => []
  | p :: r => wb p.1 p.2 ++ wbs r
theorem wbs_len : ∀ l : List Itm, (∀ p ∈ l, Ok p) → (wbs l).length ≤ 1034 * l.length
  | [], _ => Nat.le_refl _
  | p :: r, h => by
    have h1 := wb_len (h p (by simp))
    have h2 := wbs_len r (fun q hq => h q (by simp [hq]))
    rw [wbs, List.length_append, List.length_cons]
    omega
theorem wbs_bytes : ∀ l : List Itm, (∀ p ∈ l, Ok p) → Bytes (wbs l)
  | [], _ => fun x hx => absurd hx (by simp [wbs])
  | p :: r, h => fun x hx => by
    rw [wbs] at hx
    rcases List.mem_append.1 hx with g | g
    · exact wb_bytes2 (h p (by simp)) x g
    · exact wbs_bytes r (fun q hq => h q (by simp [hq])) x g
theorem back_loop (tx : ByteArray) (htx : tx.size ≤ 10000000) (a b c d e f : Int) (hT : Text6 tx a b c d e f) (R : List Int) : ∀ (its : List Itm) (acc : List ByteArray) (s : ByteArray), (∀ p ∈ its, Ok p) → acc.length + its.length ≤ 64 → 1 ≤ acc.length + its.length → s.size ≤ 1000000 → bytesOf s = wbs its ++ 10 :: R →
    Ev (fun k => rdGo k (6 + acc.length) s a b c d e tx acc) (a, b, c, d, e, f, acc ++ its.map X, strOfNums R, true)
  | [], acc, s, _, h64, h1, hs, hb => by
    have hP := p_term (6 + acc.length) (by simp only [List.length_nil] at h1; omega) s hs R hb a b c d e tx acc _ (parse_yes tx htx a b c d e f hT)
    rw [if_pos ⟨rfl, rfl, rfl, rfl, rfl, rfl⟩] at hP
    rw [List.map_nil, List.append_nil]
    exact hP
  | p :: r, acc, s, hok, h64, h1, hs, hb => by
    rw [List.length_cons] at h64 h1
    rw [wbs, List.append_assoc] at hb
    have hbR : bytesOf (strOfNums (wbs r ++ 10 :: R)) = wbs r ++ 10 :: R := bytes_str (fun x hx => bytesOf_bytes s x (by rw [hb]; simp [hx]))
    have hz : (strOfNums (wbs r ++ 10 :: R)).size ≤ 1000000 := by
      have e := congrArg List.length hb
      rw [bytesOf_length, List.length_append] at e
      rw [size_str]
      omega
    have ih := back_loop tx htx a b c d e f hT R r (acc ++ [X p]) (strOfNums (wbs r ++ 10 :: R)) (fun q hq => hok q (by simp [hq])) (by rw [List.length_append]; simp; omega) (by rw [List.length_append]; simp; omega) hz hbR
    rw [List.length_append, show 6 + (acc.length + [X p].length) = 6 + acc.length + 1 from rfl, List.append_assoc] at ih
    exact p_item (6 + acc.length) (by omega) s hs a b c d e tx acc p (hok p (by simp)) _ hb (by omega) _ ih
theorem read_entry (S : ByteArray) (hS : S.size ≤ 1000000) (a b c d e f : Int) (its : List Itm) (R : List Int) (ha : U64 a) (hb : U64 b) (hc : U64 c) (hd : U64 d) (he : U64 e) (hf : U64 f) (hok : ∀ p ∈ its, Ok p) (h64 : its.length ≤ 64) (h1 : 1 ≤ its.length)
    (h : bytesOf S = frontL a b c d e f (wbs its ++ 10 :: R)) : Ev (fun k => export_Read.f k S) (a, b, c, d, e, f, its.map X, strOfNums R, true) := by
  obtain ⟨f1, f2, f3, f4⟩ := front_len a b c d e f ha hb hc hd he hf (wbs its ++ 10 :: R)
  have hz := congrArg List.length h
  rw [bytesOf_length, f3, List.length_append] at hz
  have hB : Bytes (wbs its ++ 10 :: R) := fun x hx => bytesOf_bytes S x (by rw [h, f3]; exact List.mem_append_right _ hx)
  refine p_yes S hS a b c d e f _ ha hb hc hd he hf h _ ?_
  exact back_loop _ (by rw [size_str]; have := textL_len a b c d e f; omega) a b c d e f (text6_str ha hb hc hd he hf) R its [] _ hok (by simpa using h64) (by simpa using h1) (by rw [size_str]; omega) (bytes_str hB)
/-! ### an entry as it is written -/
theorem eItems_go : ∀ (its : List Itm) (a : ByteArray), (∀ p ∈ its, Ok p) → a.size + 1034 * its.length ≤ 1000000 → Ev (fun k => eItems k a (its.map X)) (a ++ strOfNums (wbs its))
  | [], a, _, _ => by
    refine Ev.eq (Ev.now _) ?_
    apply bytesOf_inj
    rw [bytesOf_append]
    exact (List.append_nil _).symm
  | p :: r, a, hok, hz => by
    rw [List.length_cons] at hz
    have hl := wb_len (hok p (by simp))
    have hs : (strOfNums (wb p.1 p.2)).size = (wb p.1 p.2).length := size_str _
    have ih := eItems_go r (a ++ strOfNums (wb p.1 p.2)) (fun q hq => hok q (by simp [hq])) (by rw [ByteArray.size_append]; omega)
    have e : ∀ k, eItems k a ((p :: r).map X) = (export_Item.f (X p)).bind fun t => if (a ++ t).size ≤ 140737488355327 then eItems k (a ++ t) (r.map X) else none := fun k => rfl
    refine Ev.congr e (Ev.bindc (item_f (hok p (by simp))) (Ev.pos (by rw [ByteArray.size_append]; omega) (Ev.eq ih ?_)))
    apply bytesOf_inj
    rw [bytesOf_append, bytesOf_append, bytesOf_append, bytes_str (wb_bytes2 (hok p (by simp))), bytes_str (wbs_bytes r (fun q hq => hok q (by simp [hq]))), bytes_str (wbs_bytes (p :: r) hok), wbs, List.append_assoc]
theorem ekeys : bytesOf ekAt = K 0 ∧ bytesOf ekWall = K 1 ∧ bytesOf ekMono = K 2 ∧ bytesOf ekBoot = K 3 ∧ bytesOf ekSeq = K 4 ∧ bytesOf ekId = K 5 := by decide +kernel
theorem entry_tells (a b c d e f : Int) (its : List Itm) (ha : U64 a) (hb : U64 b) (hc : U64 c) (hd : U64 d) (he : U64 e) (hf : U64 f) (hok : ∀ p ∈ its, Ok p) (h64 : its.length ≤ 64) :
    Ev (fun k => export_Entry.f k a b c d e f (its.map X)) (strOfNums (frontL a b c d e f (wbs its ++ [10]))) := by
  have t := textL_len a b c d e f
  have q0 := D_chars 1 e he
  have q1 := D_chars 2 d hd
  have q2 := D_chars 3 c hc
  have q3 := D_chars 4 b hb
  have q4 := D_chars 5 a ha
  have d1 : D 1 e = Num.dec e := rfl
  have d2 : D 2 d = Num.dec d := rfl
  have d3 : D 3 c = hexL c := rfl
  have d4 : D 4 b = Num.dec b := rfl
  have d5 : D 5 a = hexL a := rfl
  rw [d1] at q0
  rw [d2] at q1
  rw [d3] at q2
  rw [d4] at q3
  rw [d5] at q4
  have z0 : (strOfNums (textL a b c d e f)).size ≤ 113 := by rw [size_str]; exact t
  have z1 : (strOfNums (Num.dec e)).size ≤ 20 := by rw [size_str]; exact q0.2.2.2
  have z2 : (strOfNums (Num.dec d)).size ≤ 20 := by rw [size_str]; exact q1.2.2.2
  have z3 : (strOfNums (hexL c)).size ≤ 20 := by rw [size_str]; exact q2.2.2.2
  have z4 : (strOfNums (Num.dec b)).size ≤ 20 := by rw [size_str]; exact q3.2.2.2
  have z5 : (strOfNums (hexL a)).size ≤ 20 := by rw [size_str]; exact q4.2.2.2
  obtain ⟨f1, f2, f3, f4⟩ := front_len a b c d e f ha hb hc hd he hf (wbs its ++ [10])
  have hF : bytesOf (eLines (⟨#[]⟩ : ByteArray) (ePairs (strOfNums (textL a b c d e f)) (strOfNums (Num.dec e)) (strOfNums (Num.dec d)) (strOfNums (hexL c)) (strOfNums (Num.dec b)) (strOfNums (hexL a)))) = frontL a b c d e f [] := by
    obtain ⟨k0, k1, k2, k3, k4, k5⟩ := ekeys
    simp only [eLines, ePairs, eLine, bytesOf_append, k0, k1, k2, k3, k4, k5, bytes_str (textL_bytes a b c d e f), bytes_str q0.2.2.1, bytes_str q1.2.2.1, bytes_str q2.2.2.1, bytes_str q3.2.2.1, bytes_str q4.2.2.1]
    unfold frontL tailL
    rw [d1, d2, d3, d4, d5, show bytesOf (⟨#[10]⟩ : ByteArray) = [10] from rfl, show bytesOf (⟨#[61]⟩ : ByteArray) = [61] from rfl, show bytesOf (⟨#[]⟩ : ByteArray) = [] from rfl]
    simp
  have hz : (eLines (⟨#[]⟩ : ByteArray) (ePairs (strOfNums (textL a b c d e f)) (strOfNums (Num.dec e)) (strOfNums (Num.dec d)) (strOfNums (hexL c)) (strOfNums (Num.dec b)) (strOfNums (hexL a)))).size ≤ 600 := by
    rw [← bytesOf_length, hF]
    exact f2
  have hi := eItems_go its _ hok (by
    have z := Nat.mul_le_mul_left 1034 h64
    omega : (eLines (⟨#[]⟩ : ByteArray) (ePairs (strOfNums (textL a b c d e f)) (strOfNums (Num.dec e)) (strOfNums (Num.dec d)) (strOfNums (hexL c)) (strOfNums (Num.dec b)) (strOfNums (hexL a)))).size + 1034 * its.length ≤ 1000000)
  have hwl := wbs_len its hok
  have hws : (strOfNums (wbs its)).size = (wbs its).length := size_str _
  refine Ev.bind (text_tells a b c d e f ha hb hc hd he hf) (Ev.bind (Num.decimal_tells e he.1 he.2) (Ev.bind (Num.decimal_tells d hd.1 hd.2) (Ev.bindc (hex_f c hc) (Ev.bind (Num.decimal_tells b hb.1 hb.2) (Ev.bindc (hex_f a ha) (Ev.pos ?_ (Ev.bind hi (Ev.pos ?_ (Ev.eq (Ev.now _) ?_)))))))))
  · intro p hp
    simp only [ePairs, List.mem_cons, List.not_mem_nil, or_false] at hp
    rcases hp with rfl | rfl | rfl | rfl | rfl | rfl
    · exact Nat.le_trans z0 (by decide)
    · exact Nat.le_trans z1 (by decide)
    · exact Nat.le_trans z2 (by decide)
    · exact Nat.le_trans z3 (by decide)
    · exact Nat.le_trans z4 (by decide)
    · exact Nat.le_trans z5 (by decide)
  · rw [ByteArray.size_append]
    omega
  · apply bytesOf_inj
    rw [bytesOf_append, bytesOf_append, hF, bytes_str (wbs_bytes its hok), bytes_str (fun x hx => ?_), f3, show bytesOf (⟨#[10]⟩ : ByteArray) = [10] from rfl, List.append_assoc]
    rw [f3] at hx
    rcases List.mem_append.1 hx with hx | hx
    · exact f4 x hx
    · rcases List.mem_append.1 hx with hx | hx
      · exact wbs_bytes its hok x hx
      · rw [List.mem_singleton] at hx
        omega
end BA
namespace BB
open Cu EW RB RP BA
/-! ### entries, one behind the other -/
structure Ent where
  n : S23
  its : List Itm
def EntOk (e : Ent) : Prop := (U64 e.n.f0 ∧ U64 e.n.f1 ∧ U64 e.n.f2 ∧ U64 e.n.f3 ∧ U64 e.n.f4 ∧ U64 e.n.f5) ∧ (∀ p ∈ e.its, Ok p) ∧ 1 ≤ e.its.length ∧ e.its.length ≤ 64
def entL (e : Ent) (R : List Int) : List Int := frontL e.n.f0 e.n.f1 e.n.f2 e.n.f3 e.n.f4 e.n.f5 (wbs e.its ++ 10 :: R)
def ents : List Ent → List Int → List Int
  | [], R => R
  | e :: r, R => entL e (ents r R)
theorem frontL_app (a b c d e f : Int) (P R : List Int) : frontL a b c d e f (P ++ R) = frontL a b c d e f P ++ R := by
  unfold frontL tailL
  simp
theorem entL_app (e : Ent) (R : List Int) : entL e R = entL e [] ++ R := by
  unfold entL
  rw [← frontL_app, List.append_assoc]
  rfl
theorem ents_app : ∀ (es : List Ent) (R : List Int), ents es R = ents es [] ++ R
  | [], R => rfl
  | e :: r, R => by
    rw [ents, ents_app r R, ents, entL_app, entL_app e (ents r []), List.append_assoc]
theorem ents_snoc : ∀ (es : List Ent) (e : Ent) (R : List Int), ents (es ++ [e]) R = ents es (entL e R)
  | [], e, R => rfl
  | x :: r, e, R => by
    rw [List.cons_append, ents, ents_snoc r e R, ents]
theorem entL_len {e : Ent} (h : EntOk e) : 1 ≤ (entL e []).length ∧ (entL e []).length ≤ 66800 := by
  obtain ⟨⟨ha, hb, hc, hd, he, hf⟩, hok, _, h64⟩ := h
  obtain ⟨f1, f2, _, _⟩ := front_len _ _ _ _ _ _ ha hb hc hd he hf []
  have hw := wbs_len e.its hok
  unfold entL
  rw [show wbs e.its ++ [10] = [] ++ (wbs e.its ++ [10]) from rfl, frontL_app, List.length_append, List.length_append]
  have z := Nat.mul_le_mul_left 1034 h64
  simp only [List.length_cons, List.length_nil]
  omega
def toC (e : Ent) : S30 := ⟨e.n.f0, e.n.f1, e.n.f2, e.n.f3, e.n.f4, e.n.f5⟩
def toI (e : Ent) : List ByteArray := e.its.map X
theorem not_nil {s : ByteArray} (h : 1 ≤ (bytesOf s).length) : ¬ s.toList = ([] : List UInt8) := fun g => by
  have := toList_eq_nil.1 g
  rw [bytesOf_length] at h
  omega
theorem read_ent {e : Ent} (h : EntOk e) (S : ByteArray) (hS : S.size ≤ 1000000) (R : List Int) (hb : bytesOf S = entL e R) : Ev (fun k => export_Read.f k S) (e.n.f0, e.n.f1, e.n.f2, e.n.f3, e.n.f4, e.n.f5, toI e, strOfNums R, true) := by
  obtain ⟨⟨ha, hb', hc, hd, he, hf⟩, hok, h1, h64⟩ := h
  exact read_entry S hS _ _ _ _ _ _ e.its R ha hb' hc hd he hf hok h64 h1 hb
theorem read_x (s : ByteArray) (hs : s.size ≤ 1000000) (h : (10 : Int) ∉ bytesOf s) : Ev (fun k => export_Read.f k s) rdZ :=
  p_step 0 s hs _ _ _ _ _ _ _ _ (fun _ _ => by omega) (Ev.bind (field_no s h) (Ev.neg (by simp) (Ev.now _)))
theorem all_yes : ∀ (es : List Ent) (cs : List S30) (al : List (List ByteArray)) (s : ByteArray), (∀ e ∈ es, EntOk e) → bytesOf s = ents es [] → s.size ≤ 1000000 → cs.length + es.length ≤ 100 → al.length + es.length ≤ 100 → Ev (fun k => export_All.l0 k s cs al) (cs ++ es.map toC, al ++ es.map toI, true)
  | [], cs, al, s, _, hb, _, _, _ => by
    rw [List.map_nil, List.map_nil, List.append_nil, List.append_nil]
    refine Ev.step (fun k => export_All.l0.eq_2 _ _ _ _) (Ev.pos (toList_eq_nil.2 ?_) (Ev.now _))
    rw [← bytesOf_length, hb]
    rfl
  | e :: r, cs, al, s, hok, hb, hs, h1, h2 => by
    rw [List.length_cons] at h1 h2
    rw [ents] at hb
    have he := hok e (by simp)
    have hz := congrArg List.length hb
    rw [bytesOf_length, entL_app, List.length_append] at hz
    have hl := entL_len he
    have hB : bytesOf (strOfNums (ents r [])) = ents r [] := bytes_str (fun x hx => bytesOf_bytes s x (by rw [hb, entL_app]; exact List.mem_append_right _ hx))
    have ih := all_yes r (cs ++ [toC e]) (al ++ [toI e]) (strOfNums (ents r [])) (fun q hq => hok q (by simp [hq])) hB (by rw [size_str]; omega) (by rw [List.length_append]; simp; omega) (by rw [List.length_append]; simp; omega)
    rw [List.append_assoc, List.append_assoc] at ih
    exact Ev.step (fun k => export_All.l0.eq_2 _ _ _ _) (Ev.neg (not_nil (by rw [bytesOf_length]; omega)) (Ev.bind (read_ent he s hs _ hb) (Ev.pos rfl (Ev.pos (by omega) (Ev.pos (by omega) ih)))))
theorem all_no : ∀ (es : List Ent) (cs : List S30) (al : List (List ByteArray)) (s : ByteArray), (∀ e ∈ es, EntOk e) → bytesOf s = ents es [120] → s.size ≤ 1000000 → cs.length + es.length ≤ 100 → al.length + es.length ≤ 100 → Ev (fun k => export_All.l0 k s cs al) ([], [], false)
  | [], cs, al, s, _, hb, hs, _, _ => by
    have hb2 : bytesOf s = [120] := hb
    exact Ev.step (fun k => export_All.l0.eq_2 _ _ _ _) (Ev.neg (not_nil (by rw [hb2]; decide)) (Ev.bind (read_x s hs (by rw [hb2]; decide)) (Ev.neg (by decide) (Ev.now _))))
  | e :: r, cs, al, s, hok, hb, hs, h1, h2 => by
    rw [List.length_cons] at h1 h2
    rw [ents] at hb
    have he := hok e (by simp)
    have hz := congrArg List.length hb
    rw [bytesOf_length, entL_app, List.length_append] at hz
    have hl := entL_len he
    have hB : bytesOf (strOfNums (ents r [120])) = ents r [120] := bytes_str (fun x hx => bytesOf_bytes s x (by rw [hb, entL_app]; exact List.mem_append_right _ hx))
    have ih := all_no r (cs ++ [toC e]) (al ++ [toI e]) (strOfNums (ents r [120])) (fun q hq => hok q (by simp [hq])) hB (by rw [size_str]; omega) (by rw [List.length_append]; simp; omega) (by rw [List.length_append]; simp; omega)
    exact Ev.step (fun k => export_All.l0.eq_2 _ _ _ _) (Ev.neg (not_nil (by rw [bytesOf_length]; omega)) (Ev.bind (read_ent he s hs _ hb) (Ev.pos rfl (Ev.pos (by omega) (Ev.pos (by omega) ih)))))
/-! ### what is checked -/
def OkX (x : ByteArray) : Prop := x.size ≤ 1024 ∧ ∃ p : Itm, Bytes p.1 ∧ Bytes p.2 ∧ nameV (strOfNums p.1) = true ∧ x = X p
theorem split_ok (x : ByteArray) (hx : x.size ≤ 1024) : ∃ v, Ev (fun k => logbookref04_Split.f k x) v ∧ (v.2.2 = true → OkX x) := by
  rcases idxE_cases (bytesOf x) with ⟨h1, h2⟩ | ⟨m, h1, h2, h3, h4⟩
  · exact ⟨_, ref_miss x (by omega) (fun j hj => by rw [bt_get]; exact h2 j (by rw [bytesOf_length]; exact hj)) x.size 0 (by omega), fun g => by (cases g)⟩
  · rw [bytesOf_length] at h2
    refine ⟨_, ref_hit x (by omega) m h2 (by rw [bt_get]; exact h3) (fun j hj => by rw [bt_get]; exact h4 j hj) m 0 (by omega), fun g => ⟨hx, ?_⟩⟩
    have hb := bytesOf_bytes x
    have hl : m < (bytesOf x).length := by rw [bytesOf_length]; exact h2
    have e61 : (bytesOf x)[m] = 61 := by
      rw [List.getD_eq_getElem?_getD, List.getElem?_eq_getElem hl] at h3
      exact h3
    have hd : bytesOf x = (bytesOf x).take m ++ 61 :: (bytesOf x).drop (m + 1) := by
      rw [← e61, ← List.drop_eq_getElem_cons hl, List.take_append_drop]
    have hk : Bytes ((bytesOf x).take m) := fun y hy => hb y (List.mem_of_mem_take hy)
    have hx1 : x.extract 0 m = strOfNums ((bytesOf x).take m) := by
      apply bytesOf_inj
      rw [bytesOf_extract, List.drop_zero, bytes_str hk]
    refine ⟨((bytesOf x).take m, (bytesOf x).drop (m + 1)), hk, fun y hy => hb y (List.mem_of_mem_drop hy), ?_, ?_⟩
    · unfold splitV at g
      rw [hx1] at g
      by_cases hn : nameV (strOfNums ((bytesOf x).take m)) = true
      · exact hn
      · rw [if_neg hn] at g
        cases g
    · unfold X
      dsimp only
      rw [← hd, str_bytes]
open Classical in
theorem put_mem (l : List ByteArray) (s : ByteArray) (hl : l.length ≤ 100) : ∃ o, Ev (fun k => logbookref04_Put.f k l s) o ∧ o.length ≤ l.length + 1 ∧ 1 ≤ o.length ∧ ∀ y ∈ o, y = s ∨ y ∈ l := by
  refine ⟨putS l s, put_tells l s hl, ?_, ?_, ?_⟩
  · unfold putS
    split
    · omega
    · rw [len_ins]
      exact Nat.le_refl _
  · unfold putS
    split
    · rename_i g
      exact List.length_pos_of_mem g
    · rw [len_ins]
      omega
  · intro y hy
    unfold putS at hy
    split at hy
    · exact .inr hy
    · exact (mem_ins s y l).1 hy
theorem check_go (l : List ByteArray) (hl : l.length ≤ 64) : ∀ (d i n : Nat) (acc : List ByteArray), d + i = l.length → n ≤ 1024 * i → acc.length ≤ i → (0 < i → 1 ≤ acc.length) → (∀ x ∈ acc, OkX x) → ∃ o c, Ev (fun k => logbookref04_Check.l0 k l (n : Int) acc (i : Int)) (o, c) ∧ o.length ≤ 64 ∧ (c = 0 → (0 < l.length → 1 ≤ o.length) ∧ ∀ x ∈ o, OkX x)
  | 0, i, n, acc, hd, hn, ha, h1, hm => by
    by_cases h : n > 8192
    · exact ⟨[], 22, Ev.step (fun k => logbookref04_Check.l0.eq_2 _ _ _ _ _) (Ev.neg (by omega) (Ev.pos (by omega) (Ev.now _))), Nat.zero_le _, fun g => by (cases g)⟩
    · exact ⟨acc, 0, Ev.step (fun k => logbookref04_Check.l0.eq_2 _ _ _ _ _) (Ev.neg (by omega) (Ev.neg (by omega) (Ev.now _))), by omega, fun _ => ⟨fun g => h1 (by omega), hm⟩⟩
  | d + 1, i, n, acc, hd, hn, ha, h1, hm => by
    have hi : i < l.length := by omega
    have hg : rdOf ByteArray.empty l (i : Int) = l[i] := by
      unfold rdOf
      rw [Int.toNat_natCast, List.getD_eq_getElem?_getD, List.getElem?_eq_getElem hi]
      rfl
    obtain ⟨x, hxx⟩ : ∃ x, l[i] = x := ⟨_, rfl⟩
    rw [hxx] at hg
    by_cases hx : x.size > 1024
    · refine ⟨[], 22, Ev.step (fun k => logbookref04_Check.l0.eq_2 _ _ _ _ _) ?_, Nat.zero_le _, fun g => by (cases g)⟩
      rw [hg]
      exact Ev.pos (by omega) (Ev.pos (by omega) (Ev.pos (by omega) (Ev.now _)))
    · obtain ⟨v, hv, hvo⟩ := split_ok x (by omega)
      by_cases hv2 : v.2.2 = true
      · obtain ⟨o, ho, o1, o2, o3⟩ := put_mem acc x (by omega)
        obtain ⟨o', c, e1, e2⟩ := check_go l hl d (i + 1) (n + x.size) o (by omega) (by omega) (by omega) (fun _ => o2) (fun y hy => by
          rcases o3 y hy with rfl | g
          · exact hvo hv2
          · exact hm y g)
        refine ⟨o', c, Ev.step (fun k => logbookref04_Check.l0.eq_2 _ _ _ _ _) ?_, e2⟩
        rw [hg]
        refine Ev.pos (by omega) (Ev.pos (by omega) (Ev.neg (by omega) (Ev.bind hv (Ev.pos hv2 (Ev.bind ho ?_)))))
        rw [show wrap64 ((n : Int) + (x.size : Int)) = ((n + x.size : Nat) : Int) by unfold wrap64; omega, wi1 (i := i) (n := l.length) (by omega) (by omega)]
        exact e1
      · refine ⟨[], 23, Ev.step (fun k => logbookref04_Check.l0.eq_2 _ _ _ _ _) ?_, Nat.zero_le _, fun g => by (cases g)⟩
        rw [hg]
        exact Ev.pos (by omega) (Ev.pos (by omega) (Ev.neg (by omega) (Ev.bind hv (Ev.neg hv2 (Ev.now _)))))
theorem check_any (l : List ByteArray) : ∃ o c, Ev (fun k => logbookref04_Check.f k l) (o, c) ∧ o.length ≤ 64 ∧ (c = 0 → 1 ≤ o.length ∧ ∀ x ∈ o, OkX x) := by
  by_cases h0 : l.length = 0
  · exact ⟨[], 1, Ev.pos (by omega) (Ev.now _), Nat.zero_le _, fun g => by (cases g)⟩
  · by_cases h64 : l.length > 64
    · exact ⟨[], 22, Ev.neg (by omega) (Ev.pos (by omega) (Ev.now _)), Nat.zero_le _, fun g => by (cases g)⟩
    · obtain ⟨o, c, h1, hl, h2⟩ := check_go l (by omega) l.length 0 0 [] (by omega) (by omega) (Nat.le_refl _) (fun g => absurd g (by decide)) (fun x hx => absurd hx (by simp))
      exact ⟨o, c, Ev.neg (by omega) (Ev.neg (by omega) h1), hl, fun g => ⟨(h2 g).1 (by omega), (h2 g).2⟩⟩
theorem few_end (L : List ByteArray) (x : Int) : ∃ b, Ev (fun _ => if (L.length : Int) ≤ 70 then (some (decide (x ≤ 5000))) else (some false)) b := by
  by_cases h : (L.length : Int) ≤ 70
  · exact ⟨_, Ev.pos h (Ev.now _)⟩
  · exact ⟨_, Ev.neg h (Ev.now _)⟩
theorem few_go (L : List ByteArray) : ∀ (d i : Nat) (x : Int), d + i = L.length → ∃ b, Ev (fun k => logbooklaw32_few.l0 k L x (i : Int)) b
  | 0, i, x, hd => by
    obtain ⟨b, hb⟩ := few_end L x
    exact ⟨b, Ev.step (fun k => logbooklaw32_few.l0.eq_2 _ _ _ _) (Ev.neg (by omega) hb)⟩
  | d + 1, i, x, hd => by
    by_cases h70 : i < 70
    · obtain ⟨b, hb⟩ := few_go L d (i + 1) (wrap64 (x + (mn ((rdOf ByteArray.empty L (i : Int)).size : Int) 3000))) (by omega)
      refine ⟨b, Ev.step (fun k => logbooklaw32_few.l0.eq_2 _ _ _ _) (Ev.pos (by omega) (Ev.pos (by omega) (Ev.pos (by omega) ?_)))⟩
      rw [wi1 (i := i) (n := 70) (by omega) (by decide)]
      exact hb
    · obtain ⟨b, hb⟩ := few_end L x
      exact ⟨b, Ev.step (fun k => logbooklaw32_few.l0.eq_2 _ _ _ _) (Ev.pos (by omega) (Ev.neg (by omega) hb))⟩
theorem few_any (L : List ByteArray) : ∃ b, Ev (fun k => logbooklaw32_few.f k L) b := few_go L L.length 0 0 (by omega)
theorem pick_items : ∀ (o : List ByteArray), (∀ x ∈ o, OkX x ∧ ¬ ∃ t, bytesOf x = 95 :: 95 :: t) → ∃ its : List Itm, o = its.map X ∧ ∀ p ∈ its, Ok p
  | [], _ => ⟨[], rfl, fun p hp => absurd hp (by simp)⟩
  | x :: r, h => by
    obtain ⟨its, e, ho⟩ := pick_items r (fun y hy => h y (by simp [hy]))
    obtain ⟨⟨hx, p, p1, p2, p3, p4⟩, hn⟩ := h x (by simp)
    have hB : Bytes (p.1 ++ 61 :: p.2) := fun y hy => by
      simp only [List.mem_append, List.mem_cons] at hy
      rcases hy with g | rfl | g
      · exact p1 y g
      · omega
      · exact p2 y g
    have hbx : bytesOf x = p.1 ++ 61 :: p.2 := by rw [p4]; exact bytes_str hB
    refine ⟨p :: its, by rw [e, p4]; rfl, fun q hq => ?_⟩
    rcases List.mem_cons.1 hq with rfl | hq
    · refine ⟨p1, p2, p3, fun ⟨t, g⟩ => hn ⟨t ++ 61 :: q.2, by rw [hbx, g]; rfl⟩, ?_⟩
      have z := congrArg List.length hbx
      rw [bytesOf_length, List.length_append, List.length_cons] at z
      omega
    · exact ho q hq
end BB
end Go.Proofs.YtbbegchdlkmebaaDoor.Pure
