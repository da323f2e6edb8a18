-- LAID BY gprint.py: a scratch copy of the print, with functions that this session proved by hand among the printed ones
import Derived.Test.YtdpahmojoheljaaPCrcJoinsx0
namespace Go.Proofs.Ytdpahmojoheljaa.PCrcJoins
open Go.RowKit Go.Proofs.YtdpahmojoheljaaW.PrintWords Go.Proofs.YtdpahmojoheljaaW.PrintLast Go.Proofs.Ytdpahmojoheljaa.Conv Go.Proofs.YtdpahmojoheljaaW.PrintMore
attribute [local go_sem] max2_int min2_int max_two min_two max_three min_three max_four min_four gtr_less   -- for this text's walks alone
set_option linter.unusedVariables false
set_option linter.unusedSimpArgs false

-- GIVEN rounds=1 making=1
/-! ### the table and its sums: by hand: an array behind a pointer -/
def cBit (c : Int) : Int := if c % 2 = 1 then bits .xor .u32 (c / 2) 3988292384 else c / 2
def cEnt : Nat → Int → Int
  | 0, c => c
  | k + 1, c => cEnt k (cBit c)
def tabAt (j : Nat) : Int := cEnt 8 (j : Int)
def U32 (x : Int) : Prop := 0 ≤ x ∧ x < 4294967296
theorem xor_in {a b : Int} (ha : U32 a) (hb : U32 b) : U32 (bits .xor .u32 a b) := by
  obtain ⟨A, rfl⟩ := Int.eq_ofNat_of_zero_le ha.1
  obtain ⟨B, rfl⟩ := Int.eq_ofNat_of_zero_le hb.1
  have h1 := ha.2
  have h2 := hb.2
  rw [u32_xor_nat A B (by omega) (by omega)]
  have hx : A ^^^ B < 2 ^ 32 := Nat.xor_lt_two_pow (by omega) (by omega)
  exact ⟨by omega, by omega⟩
theorem cBit_in {c : Int} (h : U32 c) : U32 (cBit c) := by
  have h1 := h.1
  have h2 := h.2
  unfold cBit
  by_cases hc : c % 2 = 1
  · rw [if_pos hc]
    exact xor_in ⟨by omega, by omega⟩ ⟨by omega, by omega⟩
  · rw [if_neg hc]
    exact ⟨by omega, by omega⟩
theorem cEnt_in : ∀ (k : Nat) {c : Int}, U32 c → U32 (cEnt k c)
  | 0, _, h => h
  | k + 1, _, h => cEnt_in k (cBit_in h)
theorem tabAt_in {j : Nat} (h : j < 256) : U32 (tabAt j) := cEnt_in 8 ⟨by omega, by omega⟩
theorem and1 {c : Int} (h : U32 c) : bits .and .u32 c 1 = c % 2 := by
  have := bits_mask .u32 32 (by decide) (fun n h0 h1 => by rw [IntKind.wrap_u32]; omega) 1 (by decide) c h.1 (by have := h.2; omega)
  simpa using this
def Tab (w : World) (B : Nat) : Prop := ∀ j, j < 256 → w.cell? ⟨B, j, none⟩ = some (.int .u32 (tabAt j))
theorem Tab.below {w w' : World} {B : Nat} (h : Tab w B) (hb : Below w.heap.size w w') : Tab w' B := fun j hj => cell_later hb (h j hj)
def zeros : Array Value := (List.replicate 256 (Value.int .u32 0)).toArray
def part256 (k j : Nat) : Int := if j < k then tabAt j else 0
theorem zeros_at (w : World) (j : Nat) (h : j < 256) : (w.alloc (.cells zeros 35)).cell? ⟨w.heap.size, j, none⟩ = some (.int .u32 (part256 0 j)) := by
  have e : zeros[j]? = some (.int .u32 0) := by
    unfold zeros
    rw [List.getElem?_toArray, List.getElem?_replicate, if_pos h]
  unfold World.cell?
  rw [heap_alloc_new]
  show zeros[j]? = _
  rw [e]
  rfl
theorem zeros_free (w : World) (j : Nat) : (w.alloc (.cells zeros 35)).frozen? ⟨w.heap.size, j, none⟩ = false := by
  unfold World.frozen?
  rw [heap_alloc_new]
  show (decide (0 ≤ j) && decide (j < 0)) = false
  simp
theorem part_next {k j : Nat} (h : j ≠ k) : part256 (k + 1) j = part256 k j := by
  unfold part256
  by_cases h1 : j < k
  · rw [if_pos h1, if_pos (by omega)]
  · rw [if_neg h1, if_neg (by omega)]
theorem part_here {k : Nat} : part256 (k + 1) k = tabAt k := if_pos (Nat.lt_succ_self k)
set_option maxHeartbeats 1600000 in
set_option maxRecDepth 100000 in
theorem crcMake.calls (w : World) : Calls Try.prog 6 #[] w fun e w' => e = .returned (.pointer (some ⟨w.heap.size, 0, none⟩)) ∧ Tab w' w.heap.size ∧ w.heap.size < w'.heap.size ∧ Below w.heap.size w w' := by
  have HB : Hid (Below w.heap.size w (w.alloc (.cells zeros 35))) := Lib.hid ((Below.refl _ _).alloc (Nat.le_refl _) _)
  have HC := Lib.hid (zeros_at w)
  have HF := Lib.hid (zeros_free w)
  go_enter Try.func6, Try.ntmps6
  go_wp2_with (first
    | (refine wpList_buildTo rfl 35 _ rfl (some 4) rfl zeros (by kernel_rfl) ?_))
  go_loopw [6, 2, 3] (fun i _ _ wr => ∃ k : Nat, k ≤ 256 ∧ i = .int .i64 k ∧ Hid (∀ j, j < 256 → wr.cell? ⟨w.heap.size, j, none⟩ = some (.int .u32 (part256 k j))) ∧ Hid (∀ j, wr.frozen? ⟨w.heap.size, j, none⟩ = false) ∧ Hid (Below w.heap.size w wr) ∧ Hid (w.heap.size < wr.heap.size)) (fun i _ _ _ => 256 - (intOf i).toNat)
  case atStart => exact ⟨0, Nat.zero_le _, rfl, HC, HF, HB, Lib.hid (by simp)⟩
  case round =>
    obtain ⟨k, hk, rfl, hcc, hff, hbb, hss⟩ := hrel
    by_cases hlt : k < 256
    · have hlt2 : (k : Int) < 256 := by omega
      have HT := Lib.hid (tabAt_in hlt)
      go_wp2
      go_loop [11, 3] (fun j c => ∃ (m : Nat) (x : Int), m ≤ 8 ∧ j = .int .i64 m ∧ c = .int .u32 x ∧ U32 x ∧ Hid (cEnt (8 - m) x = tabAt k)) (fun j _ => 8 - (intOf j).toNat)
      case atStart => exact ⟨0, k, by omega, rfl, rfl, ⟨by omega, by omega⟩, Lib.hid rfl⟩
      case round =>
        obtain ⟨m, x, hm, rfl, rfl, hx, he⟩ := hrel
        have hx1 := hx.1
        have hx2 := hx.2
        by_cases hm2 : m < 8
        · have hm3 : (m : Int) < 8 := by omega
          have ha := and1 hx
          have he2 : Hid (cEnt (8 - (m + 1)) (cBit x) = tabAt k) := Lib.hid (by rw [← he.out, show 8 - m = (8 - (m + 1)) + 1 by omega]; rfl)
          have hb := cBit_in hx
          by_cases h1 : x % 2 = 1
          · have hc : Hid (cBit x = bits .xor .u32 (x / 2) 3988292384) := Lib.hid (if_pos h1)
            rw [h1] at ha
            go_wp2
            go_round
            case rel => exact ⟨m + 1, cBit x, by omega, by go_num, by rw [hc.out], hb, he2⟩
            case measure => simp [intOf]; omega
          · have hc : Hid (cBit x = x / 2) := Lib.hid (if_neg h1)
            rw [show x % 2 = 0 by omega] at ha
            go_wp2
            go_round
            case rel => exact ⟨m + 1, cBit x, by omega, by go_num, by rw [hc.out], hb, he2⟩
            case measure => simp [intOf]; omega
        · have hm3 : (8 : Int) ≤ (m : Int) := by omega
          have hm4 : m = 8 := by omega
          have hxe : Hid (x = tabAt k) := Lib.hid (by rw [← he.out, hm4]; rfl)
          have hc := hcc.out k hlt
          have hf := hff.out k
          have h2 : (wr.cell? ⟨w.heap.size, k, none⟩).isSome = true := by rw [hc]; rfl
          have yes : ∀ j, j < 256 → (wr.setCell ⟨w.heap.size, k, none⟩ (.int .u32 x)).cell? ⟨w.heap.size, j, none⟩ = some (.int .u32 (part256 (k + 1) j)) := by
            intro j hj
            by_cases e : j = k
            · rw [e, World.cell?_setCell_same _ _ _ hc, part_here, hxe.out]
            · rw [World.cell?_setCell_other _ _ _ _ (fun he => e (by injection he with _ he _; exact he.symm)), part_next e]
              exact hcc.out j hj
          have YES := Lib.hid yes
          clear yes
          go_wp2
          go_roundw
          case rel => exact ⟨k + 1, by omega, by go_num, YES, Lib.hid (fun j => by rw [World.frozen?_setCell]; exact hff.out j), Lib.hid (hbb.out.setCell (Nat.le_refl _) _), Lib.hid (by have := hss.out; simpa [World.setCell] using this)⟩
          case measure => simp [intOf]; omega
    · have hlt2 : (256 : Int) ≤ (k : Int) := by omega
      have hk2 : k = 256 := by omega
      go_wp2
      go_ret
      exact ⟨rfl, fun j hj => by rw [hcc.out j hj, hk2]; unfold part256; rw [if_pos hj], hss.out, hbb.out⟩
def crcStep (s x : Int) : Int := bits .xor .u32 (tabAt (bits .xor .u8 (s % 256) x).toNat) (s / 256)
def crcAdd (sum : Int) (l : List Int) : Int := bits .xor .u32 IntKind.u32.max (l.foldl crcStep (bits .xor .u32 IntKind.u32.max sum))
theorem xor8_in {a b : Int} (h1 : 0 ≤ a) (h2 : a < 256) (h3 : 0 ≤ b) (h4 : b < 256) : 0 ≤ bits .xor .u8 a b ∧ bits .xor .u8 a b < 256 := by
  obtain ⟨A, rfl⟩ := Int.eq_ofNat_of_zero_le h1
  obtain ⟨B, rfl⟩ := Int.eq_ofNat_of_zero_le h3
  rw [u8_xor_nat A B (by omega) (by omega)]
  have hx : A ^^^ B < 2 ^ 8 := Nat.xor_lt_two_pow (by omega) (by omega)
  exact ⟨by omega, by omega⟩
theorem crcStep_in {s x : Int} (hs : U32 s) (hx : 0 ≤ x ∧ x ≤ 255) : U32 (crcStep s x) := by
  have h1 := hs.1
  have h2 := hs.2
  have h3 := xor8_in (a := s % 256) (b := x) (by omega) (by omega) hx.1 (by omega)
  exact xor_in (tabAt_in (by omega)) ⟨by omega, by omega⟩
theorem fold_next (l : List Int) (k : Nat) (h : k < l.length) (s : Int) : (l.take (k + 1)).foldl crcStep s = crcStep ((l.take k).foldl crcStep s) (l.getD k 0) := by
  rw [List.take_add_one, List.foldl_append, List.getElem?_eq_getElem h, List.getD_eq_getElem?_getD, List.getElem?_eq_getElem h]
  rfl
theorem fold_in : ∀ (l : List Int) (s : Int), U32 s → (∀ x ∈ l, 0 ≤ x ∧ x ≤ 255) → U32 (l.foldl crcStep s)
  | [], s, h, _ => h
  | x :: l, s, h, hl => fold_in l _ (crcStep_in h (hl x (by simp))) (fun y hy => hl y (List.mem_cons_of_mem _ hy))
set_option maxHeartbeats 1600000 in
theorem crcAdd_none (sum : Int) (A : Option Addr) (n c : Nat) (w : World) : Calls Try.prog 11 #[.pointer none, .int .u32 sum, .slice A n c] w fun e w' => e = .returned (.int .u32 0) ∧ Below w.heap.size w w' := by
  go_enter Try.func11, Try.ntmps11
  go_wp2
  go_ret
  exact ⟨rfl, Below.refl _ _⟩
set_option maxHeartbeats 1600000 in
theorem crcAdd_some (B : Nat) (sum : Int) (hs : U32 sum) (A : Option Addr) (c : Nat) (l : List Int) (hx : ∀ x ∈ l, 0 ≤ x ∧ x ≤ 255) (w : World) (ht : Tab w B) (hl : Kd.C (Kd.int .u8) w A l.length l) : Calls Try.prog 11 #[.pointer (some ⟨B, 0, none⟩), .int .u32 sum, .slice A l.length c] w fun e w' => e = .returned (.int .u32 (crcAdd sum l)) ∧ Below w.heap.size w w' := by
  have hm : U32 IntKind.u32.max := ⟨by decide, by decide⟩
  have h0 := xor_in hm hs
  have HA : Hid (crcAdd sum l = bits .xor .u32 IntKind.u32.max (l.foldl crcStep (bits .xor .u32 IntKind.u32.max sum))) := Lib.hid rfl
  generalize hg : crcAdd sum l = res at HA
  generalize hg2 : bits .xor .u32 IntKind.u32.max sum = s0 at h0 HA
  have HG := Lib.hid hg2
  have HT := Lib.hid ht
  have HL := Lib.hid hl
  have HX := Lib.hid hx
  have hlen := Kd.C_max hl
  clear ht hl hx hg hg2 hs hm
  go_enter Try.func11, Try.ntmps11
  go_wp2
  rw [HG.out]
  go_loop [15, 1, 8] (fun i s _ => ∃ k : Nat, k ≤ l.length ∧ i = .int .i64 k ∧ s = .int .u32 ((l.take k).foldl crcStep s0)) (fun i _ _ => l.length - (intOf i).toNat)
  case atStart => exact ⟨0, Nat.zero_le _, rfl, rfl⟩
  case round =>
    obtain ⟨k, hk, rfl, rfl⟩ := hrel
    by_cases hlt : k < l.length
    · have hlt2 : (k : Int) < (l.length : Int) := by omega
      have hk0 : (0 : Int) ≤ (k : Int) := by omega
      obtain ⟨ad, rfl, hc⟩ := Kd.at_int HL.out (k : Int) hk0 hlt2
      rw [Int.toNat_natCast] at hc
      have hn := fold_next l k hlt s0
      have hin := fold_in (l.take k) s0 h0 (fun x hx => HX.out x (List.mem_of_mem_take hx))
      have hxr : 0 ≤ rd l (k : Int) ∧ rd l (k : Int) ≤ 255 := by
        have : rd l (k : Int) = l[k] := by
          unfold rd
          rw [Int.toNat_natCast, List.getD_eq_getElem?_getD, List.getElem?_eq_getElem hlt]
          rfl
        rw [this]
        exact HX.out _ (List.getElem_mem hlt)
      have hxe : l.getD k 0 = rd l (k : Int) := rfl
      rw [hxe] at hn
      generalize hg1 : rd l (k : Int) = x at hc hxr hn
      generalize hg2 : (l.take k).foldl crcStep s0 = s at hin hn ⊢
      clear hg1 hg2 hxe
      have hs1 := hin.1
      have hs2 := hin.2
      have h8 := xor8_in (a := s % 256) (b := x) (by omega) (by omega) hxr.1 (by omega)
      have ht := HT.out (bits .xor .u8 (s % 256) x).toNat (by omega)
      have HN := Lib.hid hn
      have HS : Hid (crcStep s x = bits .xor .u32 (tabAt (bits .xor .u8 (s % 256) x).toNat) (s / 256)) := Lib.hid rfl
      clear hn
      go_wp2
      go_round
      case rel => exact ⟨k + 1, by omega, by go_num, by rw [HN.out, HS.out]⟩
      case measure => simp [intOf]; omega
    · have hlt2 : (l.length : Int) ≤ (k : Int) := by omega
      have hke : k = l.length := by omega
      have hfe : Hid ((l.take k).foldl crcStep s0 = l.foldl crcStep s0) := Lib.hid (by rw [hke, List.take_length])
      rw [hfe.out]
      go_wp2
      go_ret
      exact ⟨by rw [HA.out]; rfl, Below.refl _ _⟩
set_option maxHeartbeats 1600000 in
theorem crcSum_none (A : Option Addr) (n c : Nat) (w : World) : Calls Try.prog 9 #[.pointer none, .slice A n c] w fun e w' => e = .returned (.int .u32 0) ∧ Below w.heap.size w w' := by
  go_enter Try.func9, Try.ntmps9
  go_wp2_with (first
    | (go_at_call 11; (with_reducible refine (crcAdd_none 0 A n c _).mono ?_); rintro e w2 ⟨rfl, hb2⟩))
  go_ret
  exact ⟨rfl, hb2⟩
set_option maxHeartbeats 1600000 in
theorem crcSum_some (B : Nat) (A : Option Addr) (c : Nat) (l : List Int) (hx : ∀ x ∈ l, 0 ≤ x ∧ x ≤ 255) (w : World) (ht : Tab w B) (hl : Kd.C (Kd.int .u8) w A l.length l) : Calls Try.prog 9 #[.pointer (some ⟨B, 0, none⟩), .slice A l.length c] w fun e w' => e = .returned (.int .u32 (crcAdd 0 l)) ∧ Below w.heap.size w w' := by
  have HC := Lib.hid (crcAdd_some B 0 ⟨by decide, by decide⟩ A c l hx w ht hl)
  clear hx ht hl
  go_enter Try.func9, Try.ntmps9
  go_wp2_with (first
    | (go_at_call 11; (with_reducible refine (HC.out).mono ?_); rintro e w2 ⟨rfl, hb2⟩))
  go_ret
  exact ⟨rfl, hb2⟩
theorem awake_sum : crcAdd 0 [49, 50, 51, 52, 53, 54, 55, 56, 57] = 3421780262 := by decide +kernel
set_option maxHeartbeats 1600000 in
theorem crcAwake (w : World) : Calls Try.prog 8 #[] w fun e w' => e = .returned (.bool true) ∧ Below w.heap.size w w' := by
  have HC : Hid (∀ (W : World) (A : Addr), Tab W w.heap.size → Kd.C (Kd.int .u8) W (some A) 9 [49, 50, 51, 52, 53, 54, 55, 56, 57] → Calls Try.prog 9 #[.pointer (some ⟨w.heap.size, 0, none⟩), .slice (some A) 9 9] W fun e w' => e = .returned (.int .u32 3421780262) ∧ Below W.heap.size W w') :=
    Lib.hid (fun W A ht hl => by
      have := crcSum_some w.heap.size (some A) 9 [49, 50, 51, 52, 53, 54, 55, 56, 57] (by decide) W ht hl
      rw [awake_sum] at this
      exact this)
  go_enter Try.func8, Try.ntmps8
  go_wp2_with (first
    | (go_at_call 6; (with_reducible refine (crcMake.calls _).mono ?_); rintro e w2 ⟨rfl, ht2, hs2, hb2⟩; have HT2 := Lib.hid ht2; have HS2 := Lib.hid hs2; have HB2 := Lib.hid hb2; clear ht2 hs2 hb2)
    | (go_at_call 9; (with_reducible refine (HC.out _ ⟨w2.heap.size, 0, none⟩ ?a1 ?a2).mono ?_); (case a1 => exact HT2.out.below ((Below.refl _ _).alloc (Nat.le_refl _) _)); (case a2 => exact C_lit (enc := Value.int .u8) (xs := [49, 50, 51, 52, 53, 54, 55, 56, 57]) (blk_new _ _) (by decide)); rintro e w3 ⟨rfl, hb3⟩; have HB3 := Lib.hid hb3; clear hb3))
  go_ret
  exact ⟨rfl, HB2.out.trans ((((Below.refl _ _).alloc (Nat.le_refl _) _).trans (HB3.out.mono (by simp))).mono HB2.out.size)⟩
def byteAll (l : List Int) : Bool := l.all fun x => decide (0 ≤ x ∧ x ≤ 255)
theorem byteAll_out {l : List Int} (h : byteAll l = true) : ∀ x ∈ l, 0 ≤ x ∧ x ≤ 255 := fun x hx => of_decide_eq_true (List.all_eq_true.1 h x hx)
def logbooklaw03_CrcJoins.f (k : Nat) (l0 : List Int) (l1 : List Int) : Option Bool := if 2000 < l0.length ∨ 2000 < l1.length then some true else
  if byteAll l0 = true ∧ byteAll l1 = true ∧ 0 ≤ crcAdd 0 l0 ∧ crcAdd 0 l0 < 4294967296 ∧ crcAdd 0 (l0 ++ l1) = crcAdd (crcAdd 0 l0) l1 then some true else none
set_option maxHeartbeats 3200000 in
theorem logbooklaw03_CrcJoins.calls (k : Nat) (A0 : Option Addr) (c0 : Nat) (l0 : List Int) (A1 : Option Addr) (c1 : Nat) (l1 : List Int) (r : Bool) (w : World) (hr0 : Kd.C (Kd.int .u8) w A0 l0.length l0) (hc0 : l0.length ≤ c0) (hr1 : Kd.C (Kd.int .u8) w A1 l1.length l1) (hc1 : l1.length ≤ c1) (h : logbooklaw03_CrcJoins.f k l0 l1 = some r) :
    Calls Try.prog 5 #[.slice A0 l0.length c0, .slice A1 l1.length c1] w fun e w' => e = .returned (.bool r) ∧ Below w.heap.size w w' := by
  unfold logbooklaw03_CrcJoins.f at h
  by_cases hs : 2000 < l0.length ∨ 2000 < l1.length
  · rw [if_pos hs] at h
    obtain rfl := Option.some.inj h
    clear h hr0 hr1 hc0 hc1
    by_cases h0 : 2000 < l0.length
    · have h0' : (2000 : Int) < (l0.length : Int) := by omega
      go_enter Try.func5, Try.ntmps5
      go_wp2_with (first
        | (go_at_call 8; (with_reducible refine (crcAwake _).mono ?_); rintro e w2 ⟨rfl, hb2⟩))
      go_ret
      exact ⟨rfl, hb2⟩
    · have h0' : ¬ (2000 : Int) < (l0.length : Int) := by omega
      have h1' : (2000 : Int) < (l1.length : Int) := by omega
      go_enter Try.func5, Try.ntmps5
      go_wp2_with (first
        | (go_at_call 8; (with_reducible refine (crcAwake _).mono ?_); rintro e w2 ⟨rfl, hb2⟩))
      go_ret
      exact ⟨rfl, hb2⟩
  rw [if_neg hs] at h
  have h0' : ¬ (2000 : Int) < (l0.length : Int) := by omega
  have h1' : ¬ (2000 : Int) < (l1.length : Int) := by omega
  by_cases hc : byteAll l0 = true ∧ byteAll l1 = true ∧ 0 ≤ crcAdd 0 l0 ∧ crcAdd 0 l0 < 4294967296 ∧ crcAdd 0 (l0 ++ l1) = crcAdd (crcAdd 0 l0) l1
  case neg => rw [if_neg hc] at h; cases h
  rw [if_pos hc] at h
  obtain ⟨g0, g1, g2, g3, g4⟩ := hc
  obtain rfl := Option.some.inj h
  clear h
  have HJ : Hid (∀ (W : World) (A : Option Addr) (c : Nat), Tab W w.heap.size → Kd.C (Kd.int .u8) W A (l0 ++ l1).length (l0 ++ l1) → Calls Try.prog 9 #[.pointer (some ⟨w.heap.size, 0, none⟩), .slice A (l0.length + l1.length) c] W fun e w' => e = .returned (.int .u32 (crcAdd 0 (l0 ++ l1))) ∧ Below W.heap.size W w') :=
    Lib.hid (fun W A c ht hl => by
      rw [← List.length_append]
      exact crcSum_some w.heap.size A c (l0 ++ l1) (fun x hx => (List.mem_append.1 hx).elim (byteAll_out g0 x) (byteAll_out g1 x)) W ht hl)
  have HS : Hid (∀ W, Below w.heap.size w W → Tab W w.heap.size → Calls Try.prog 9 #[.pointer (some ⟨w.heap.size, 0, none⟩), .slice A0 l0.length c0] W fun e w' => e = .returned (.int .u32 (crcAdd 0 l0)) ∧ Below W.heap.size W w') :=
    Lib.hid (fun W hb ht => crcSum_some w.heap.size A0 c0 l0 (byteAll_out g0) W ht (Kd.C_below hr0 hb))
  have HD : Hid (∀ W, Below w.heap.size w W → Tab W w.heap.size → Calls Try.prog 11 #[.pointer (some ⟨w.heap.size, 0, none⟩), .int .u32 (crcAdd 0 l0), .slice A1 l1.length c1] W fun e w' => e = .returned (.int .u32 (crcAdd (crcAdd 0 l0) l1)) ∧ Below W.heap.size W w') :=
    Lib.hid (fun W hb ht => crcAdd_some w.heap.size (crcAdd 0 l0) ⟨g2, g3⟩ A1 c1 l1 (byteAll_out g1) W ht (Kd.C_below hr1 hb))
  rw [g4] at HJ
  have HR0 := Lib.hid hr0
  have HR1 := Lib.hid hr1
  have HL := Lib.hid (show ([] : List Int).length + l0.length ≤ 2000 by simp; omega)
  have HL2 := Lib.hid (show ([] ++ l0 : List Int).length + l1.length ≤ 4000 by simp; omega)
  clear g0 g1 g2 g3 g4 hr0 hr1 hc0 hc1 hs
  generalize crcAdd (crcAdd 0 l0) l1 = y at HD HJ
  generalize crcAdd 0 l0 = x at HS HD
  have HN : Hid (∀ W : World, Kd.R (Kd.int .u8) 5 (W.alloc (.cells #[] 5)) W.heap.size (fun _ => True) (.slice (some ⟨W.heap.size, 0, none⟩) 0 0) ([] : List Int)) := Lib.hid (fun W => ⟨fun _ _ => trivial, [], by
    have h2 := World.ownsRow_lit (base := W.heap.size) (e := 5) (size := 1) W #[] 0 (Nat.le_refl _) (by decide) (by simp)
    have h3 : (W.alloc (.cells #[] 5)).ownsRow W.heap.size 5 1 (.slice (some ⟨W.heap.size, 0, none⟩) 0 0) 0 [] := by simpa using h2
    exact h3, Reps.none _ _⟩)
  have info : (Try.prog.info? 5).map (fun i => (i.zero, i.size, i.bytes)) = some (some (.int .u8 0), 1, 1) := by kernel_rfl
  have INFO := Lib.hid info
  clear info
  go_enter Try.func5, Try.ntmps5
  go_wp2_with (first
    | (go_at_call 6; (with_reducible refine (crcMake.calls _).mono ?_); rintro e w2 ⟨rfl, ht2, hs2, hb2⟩; have HT2 := Lib.hid ht2; have HS2 := Lib.hid hs2; have HB2 := Lib.hid hb2; have HO2 := Lib.hid (HN.out w2); have HW2 : Hid (Below w2.heap.size w2 (w2.alloc (.cells #[] 5))) := Lib.hid ((Below.refl _ _).alloc (Nat.le_refl _) _); clear ht2 hs2 hb2)
    | ((with_reducible refine gate_builtin (b := .append) (xs := #[.tmp 17, .tmp 18]) rfl ?_); at_builtin; refine Kd.R_append_rows (Kd.int .u8) (w0 := w2) w2.heap.size rfl (.tmp 17) (.tmp 18) 28 5 (.int .u8 0) 1 rfl Try.underlying28 INFO.out rfl (by decide) (by omega) _ [] l0 _ _ _ (fun _ => True) (fun _ => False) rfl rfl HO2.out (Kd.C_below HR0.out (HB2.out.trans (HW2.out.mono HB2.out.size))) (fun _ _ h => h) (fun _ h => h.elim) (fun _ _ => trivial) HW2.out HW2.out.size (by have := HL.out; omega) ?_; intro v3 w3 ho3 hb3 hg3 hat3; have HO3 := Lib.hid ho3; have HB3 := Lib.hid hb3; clear ho3 hb3 hg3 hat3)
    | ((with_reducible refine gate_builtin (b := .append) (xs := #[.tmp 19, .tmp 20]) rfl ?_); at_builtin; refine Kd.R_append_rows (Kd.int .u8) (w0 := w2) w2.heap.size rfl (.tmp 19) (.tmp 20) 28 5 (.int .u8 0) 1 rfl Try.underlying28 INFO.out rfl (by decide) (by omega) _ ([] ++ l0) l1 _ _ _ (fun _ => True) (fun _ => False) rfl rfl HO3.out (Kd.C_below HR1.out (HB2.out.trans (HB3.out.mono HB2.out.size))) (fun _ _ h => h) (fun _ h => h.elim) (fun _ _ => trivial) HB3.out HB3.out.size (by have := HL2.out; omega) ?_; intro v4 w4 ho4 hb4 hg4 hat4; obtain ⟨A4, c4, hv4, hc4, hC4⟩ := Kd.R_reads ho4; rw [List.nil_append] at hv4 hC4; subst hv4; have HC4 := Lib.hid hC4; have HT4 := Lib.hid (HT2.out.below hb4); have HB4 := Lib.hid (HB2.out.trans (hb4.mono HB2.out.size)); clear ho4 hb4 hg4 hat4 hc4 hC4)
    | (go_at_call 9; (with_reducible refine (HJ.out _ A4 c4 HT4.out HC4.out).mono ?_); rintro e w5 ⟨rfl, hb5⟩; have HT5 := Lib.hid (HT4.out.below hb5); have HB5 := Lib.hid (HB4.out.trans (hb5.mono HB4.out.size)); clear hb5)
    | (go_at_call 9; (with_reducible refine (HS.out _ HB5.out HT5.out).mono ?_); rintro e w6 ⟨rfl, hb6⟩; have HT6 := Lib.hid (HT5.out.below hb6); have HB6 := Lib.hid (HB5.out.trans (hb6.mono HB5.out.size)); clear hb6)
    | (go_at_call 11; (with_reducible refine (HD.out _ HB6.out HT6.out).mono ?_); rintro e w7 ⟨rfl, hb7⟩; have HB7 := Lib.hid (HB6.out.trans (hb7.mono HB6.out.size)); clear hb7)
    | (go_at_call 8; (with_reducible refine (crcAwake _).mono ?_); rintro e w8 ⟨rfl, hb8⟩; have HB8 := Lib.hid (HB7.out.trans (hb8.mono HB7.out.size)); clear hb8))
  go_ret
  exact ⟨rfl, HB8.out⟩

end Go.Proofs.Ytdpahmojoheljaa.PCrcJoins
