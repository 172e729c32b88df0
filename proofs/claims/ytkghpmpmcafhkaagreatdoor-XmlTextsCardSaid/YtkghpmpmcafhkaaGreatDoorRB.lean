/-
  RefXC: the sign that begins a text: the document's walk.
  RefXD: the signs of texts, and texts as they are written: the document's walks.
-/
import Derived.Test.YtkghpmpmcafhkaaGreatDoorRA
import Derived.Test.YtkghpmpmcafhkaaGreatDoorPC
import Derived.Lib.MapLaws
namespace Go.Proofs.YtkghpmpmcafhkaaGreatDoor
open Go.RowKit

/-- the value of the first signs' bits -/
def vAt (base : Nat) (l : List UInt8) : Nat → Nat
  | 0 => (l.getD 0 0).toNat - base
  | j + 1 => 64 * vAt base l j + ((l.getD (j + 1) 0).toNat - 128)
def cOk (l : List UInt8) (j : Nat) : Prop := ∀ i, 1 ≤ i → i ≤ j → 128 ≤ (l.getD i 0).toNat ∧ (l.getD i 0).toNat ≤ 191
/-- a sign of n bytes whose value is v -/
def fits (n least v : Nat) (l : List UInt8) : Prop := n ≤ l.length ∧ cOk l (n - 1) ∧ least ≤ v ∧ v ≤ 1114111 ∧ ¬ (55296 ≤ v ∧ v ≤ 57343)
theorem cOk_1 (l : List UInt8) : cOk l 1 ↔ 128 ≤ (l.getD 1 0).toNat ∧ (l.getD 1 0).toNat ≤ 191 :=
  ⟨fun h => h 1 (by omega) (by omega), fun h i h1 h2 => by obtain rfl : i = 1 := by omega
                                                           exact h⟩
theorem cOk_s (l : List UInt8) (j : Nat) : cOk l (j + 1) ↔ cOk l j ∧ 128 ≤ (l.getD (j + 1) 0).toNat ∧ (l.getD (j + 1) 0).toNat ≤ 191 := by
  constructor
  · intro h
    exact ⟨fun i h1 h2 => h i h1 (by omega), h (j + 1) (by omega) (by omega)⟩
  · rintro ⟨h, h'⟩ i h1 h2
    by_cases e : i = j + 1
    · subst e; exact h'
    · exact h i h1 (by omega)
theorem cOk_0 (l : List UInt8) : cOk l 0 := fun i h1 h2 => by omega
theorem signF_0 (l : List UInt8) (h : (l.getD 0 0).toNat < 128) : signF l = ((l.getD 0 0).toNat, 1) := by
  rw [signF_N]; unfold signN
  split
  · rfl
  · omega
theorem signF_bad (l : List UInt8) (h : 128 ≤ (l.getD 0 0).toNat) (h2 : (l.getD 0 0).toNat < 192 ∨ 248 ≤ (l.getD 0 0).toNat) : signF l = (0, 0) := by
  rw [signF_N]; unfold signN
  rw [if_neg (by omega), if_neg (by omega), if_neg (by omega), if_neg (by omega)]
theorem signF_2 (l : List UInt8) (h : 192 ≤ (l.getD 0 0).toNat ∧ (l.getD 0 0).toNat < 224) : (fits 2 128 (vAt 192 l 1) l → signF l = (vAt 192 l 1, 2)) ∧ (¬ fits 2 128 (vAt 192 l 1) l → signF l = (0, 0)) := by
  have hv : vAt 192 l 1 = 64 * ((l.getD 0 0).toNat - 192) + ((l.getD 1 0).toNat - 128) := rfl
  have hc := cOk_1 l
  have h1 := (l.getD 1 0).toNat_lt
  unfold fits
  rw [signF_N, hc, hv]
  unfold signN
  rw [if_neg (by omega), if_pos h]
  constructor
  · rintro ⟨a, b, c, d, e⟩
    rw [if_pos ⟨a, b.1, b.2, c⟩]
  · intro hn
    rw [if_neg]
    rintro ⟨a, b, c, d⟩
    exact hn ⟨a, ⟨b, c⟩, d, by omega, by omega⟩
theorem signF_3 (l : List UInt8) (h : 224 ≤ (l.getD 0 0).toNat ∧ (l.getD 0 0).toNat < 240) : (fits 3 2048 (vAt 224 l 2) l → signF l = (vAt 224 l 2, 3)) ∧ (¬ fits 3 2048 (vAt 224 l 2) l → signF l = (0, 0)) := by
  have hv : vAt 224 l 2 = 64 * (64 * ((l.getD 0 0).toNat - 224) + ((l.getD 1 0).toNat - 128)) + ((l.getD 2 0).toNat - 128) := rfl
  have hc : cOk l (3 - 1) ↔ _ := cOk_s l 1
  have h1 := (l.getD 1 0).toNat_lt
  have h2 := (l.getD 2 0).toNat_lt
  unfold fits
  rw [signF_N, hc, hv, cOk_1]
  unfold signN
  rw [if_neg (by omega), if_neg (by omega), if_pos h]
  constructor
  · rintro ⟨a, ⟨b, b'⟩, c, d, e⟩
    rw [if_pos ⟨a, b, b', c, e⟩]
  · intro hn
    rw [if_neg]
    rintro ⟨a, b, b', c, d⟩
    exact hn ⟨a, ⟨b, b'⟩, c, by omega, d⟩
theorem signF_4 (l : List UInt8) (h : 240 ≤ (l.getD 0 0).toNat ∧ (l.getD 0 0).toNat < 248) : (fits 4 65536 (vAt 240 l 3) l → signF l = (vAt 240 l 3, 4)) ∧ (¬ fits 4 65536 (vAt 240 l 3) l → signF l = (0, 0)) := by
  have hv : vAt 240 l 3 = 64 * (64 * (64 * ((l.getD 0 0).toNat - 240) + ((l.getD 1 0).toNat - 128)) + ((l.getD 2 0).toNat - 128)) + ((l.getD 3 0).toNat - 128) := rfl
  have hc : cOk l (4 - 1) ↔ _ := cOk_s l 2
  have h1 := (l.getD 1 0).toNat_lt
  have h2 := (l.getD 2 0).toNat_lt
  have h3 := (l.getD 3 0).toNat_lt
  unfold fits
  rw [signF_N, hc, hv, cOk_s l 1, cOk_1]
  unfold signN
  rw [if_neg (by omega), if_neg (by omega), if_neg (by omega), if_pos h]
  constructor
  · rintro ⟨a, ⟨⟨b, b'⟩, b''⟩, c, d, e⟩
    rw [if_pos ⟨a, b, b', b'', c, d⟩]
  · intro hn
    rw [if_neg]
    rintro ⟨a, b, b', b'', c, d⟩
    exact hn ⟨a, ⟨⟨b, b'⟩, b''⟩, c, d, by omega⟩
theorem vAt_le (base : Nat) (l : List UInt8) : ∀ j, vAt base l j ≤ 64 ^ j * 512 - 128
  | 0 => by have := (l.getD 0 0).toNat_lt; show (l.getD 0 0).toNat - base ≤ 1 * 512 - 128; omega
  | j + 1 => by
    have ih := vAt_le base l j
    have h := (l.getD (j + 1) 0).toNat_lt
    show 64 * vAt base l j + ((l.getD (j + 1) 0).toNat - 128) ≤ _
    have h1 : 1 ≤ 64 ^ j := Nat.one_le_pow _ _ (by omega)
    rw [Nat.pow_succ]
    omega
theorem wrap_sign (v b : Nat) (hv : v ≤ 134217728) (hb : 128 ≤ b ∧ b < 256) : wrap64 (wrap64 (wrap64 (64 * (v : Int)) + (b : Int)) - 128) = ((64 * v + (b - 128) : Nat) : Int) := by
  unfold wrap64
  omega
theorem vAt_s (base : Nat) (l : List UInt8) (j : Nat) : vAt base l (j + 1) = 64 * vAt base l j + ((l.getD (j + 1) 0).toNat - 128) := rfl
set_option maxHeartbeats 2000000 in
set_option maxRecDepth 20000 in
theorem rsign_any (l : List UInt8) (hl : l ≠ []) (hm : l.length ≤ 1099511627776) (w : World) : Calls Tryz.prog 61 #[.string (bs l)] w fun e w' => e = .returned (.tuple #[.int .i64 (signF l).1, .int .i64 (signF l).2]) ∧ w' = w := by
  have hsz := bs_size l
  have h0 : 0 < l.length := List.length_pos_iff.2 hl
  have hl0 : (bs l)[0]'(by rw [hsz]; exact h0) = l[0] := rfl
  have hk0 : (0 : Int) < ((bs l).size : Int) := by rw [hsz]; omega
  have hg0 : l.getD 0 0 = l[0] := by rw [List.getD_eq_getElem?_getD, List.getElem?_eq_getElem h0]; rfl
  have hb0 := l[0].toNat_lt
  go_enter Tryz.func61, Tryz.ntmps61
  by_cases h1 : l[0].toNat < 128
  · have hd1 : decide ((l[0].toNat : Int) < 128) = true := decide_eq_true (by omega)
    rw [signF_0 l (by rw [hg0]; exact h1), hg0]
    go_wp2_with fail
    go_ret2
    exact ⟨rfl, rfl⟩
  have hcase : (192 ≤ (l.getD 0 0).toNat ∧ (l.getD 0 0).toNat < 224) ∨ (224 ≤ (l.getD 0 0).toNat ∧ (l.getD 0 0).toNat < 240) ∨ (240 ≤ (l.getD 0 0).toNat ∧ (l.getD 0 0).toNat < 248) ∨ (l.getD 0 0).toNat < 192 ∨ 248 ≤ (l.getD 0 0).toNat := by omega
  rcases hcase with h | h | h | h | h
  · have hh := h
    rw [hg0] at hh
    have g192 : decide ((192 : Int) ≤ (l[0].toNat : Int)) = true := decide_eq_true (by omega)
    have k224 : decide ((l[0].toNat : Int) < 224) = true := decide_eq_true (by omega)
    clear hh
    have hfit := signF_2 l h
    obtain ⟨S, hS⟩ : ∃ S, signF l = S := ⟨_, rfl⟩
    rw [hS] at hfit ⊢
    rw [hg0] at h
    have HF := Lib.hid hfit
    have hd1 : decide ((l[0].toNat : Int) < 128) = false := decide_eq_false (by omega)
    clear hfit hS hb0
    by_cases hlen : 2 ≤ l.length
    rotate_left 1
    · have hdl : decide ((l.length : Int) < 2) = true := decide_eq_true (by omega)
      obtain rfl : S = (0, 0) := HF.out.2 fun hf => hlen hf.1
      clear HF
      go_wp2_with fail
      go_ret2
      exact ⟨rfl, rfl⟩
    have hdl : decide ((l.length : Int) < 2) = false := decide_eq_false (by omega)
    have hv0 : (l[0].toNat : Int) - 192 = ((vAt 192 l 0 : Nat) : Int) := by show _ = (((l.getD 0 0).toNat - 192 : Nat) : Int); rw [hg0]; omega
    go_wp2_with fail
    go_loop [7, 8, 9] (fun v i d => ∃ k : Nat, k < 2 ∧ v = .int .i64 (vAt 192 l k) ∧ i = .int .i64 (k + 1) ∧ cOk l k) (fun v i d => 2 - (intOf i).toNat)
    case atStart => exact ⟨0, by omega, by rw [← hv0], rfl, cOk_0 l⟩
    case round =>
      obtain ⟨k, hk, rfl, rfl, hok⟩ := hrel
      clear hv0 hd1 hdl
      have hvl := vAt_le 192 l k
      have h64 : (64 : Nat) ^ k ≤ 64 ^ 3 := Nat.pow_le_pow_right (by omega) (by omega)
      by_cases hlt : k + 1 < 2
      · have hg1 : l.getD (k + 1) 0 = l[k + 1] := by rw [List.getD_eq_getElem?_getD, List.getElem?_eq_getElem (show k + 1 < l.length by omega)]; rfl
        have hki : ((k + 1 : Nat) : Int) < ((bs l).size : Int) := by rw [hsz]; omega
        have hlk : (bs l)[k + 1]'(by rw [hsz]; omega) = l[k + 1] := rfl
        have hb1 := l[k + 1].toNat_lt
        have hkd : decide ((k : Int) + 1 < 2) = true := decide_eq_true (by omega)
        have hsk := cOk_s l k
        rw [hg1] at hsk
        by_cases hlo : 128 ≤ l[k + 1].toNat
        rotate_left 1
        · have e1 : decide ((l[k + 1].toNat : Int) < 128) = true := decide_eq_true (by omega)
          obtain rfl : S = (0, 0) := HF.out.2 fun hf => by
            have := hf.2.1 (k + 1) (by omega) (by omega)
            rw [hg1] at this
            omega
          clear HF
          go_wp2_with fail
          go_ret2
          exact ⟨rfl, rfl⟩
        have e1 : decide ((l[k + 1].toNat : Int) < 128) = false := decide_eq_false (by omega)
        by_cases hhi : l[k + 1].toNat ≤ 191
        rotate_left 1
        · have e2 : decide ((191 : Int) < (l[k + 1].toNat : Int)) = true := decide_eq_true (by omega)
          obtain rfl : S = (0, 0) := HF.out.2 fun hf => by
            have := hf.2.1 (k + 1) (by omega) (by omega)
            rw [hg1] at this
            omega
          clear HF
          go_wp2_with fail
          go_ret2
          exact ⟨rfl, rfl⟩
        have e2 : decide ((191 : Int) < (l[k + 1].toNat : Int)) = false := decide_eq_false (by omega)
        have hvs := vAt_s 192 l k
        rw [hg1] at hvs
        have HVS := Lib.hid (And.intro hvs (And.intro hvl h64))
        have HSK := Lib.hid (hsk.2 ⟨hok, hlo, hhi⟩)
        have HLO := Lib.hid (And.intro hlo hhi)
        clear hsk hok hvs hlo hhi hvl h64
        go_wp2_with fail
        go_round
        case rel =>
          refine ⟨k + 1, hlt, ?_, by go_num, HSK.out⟩
          obtain ⟨h1, h2, h3⟩ := HVS.out
          obtain ⟨h4, h5⟩ := HLO.out
          rw [h1]
          congr 1
          generalize vAt 192 l k = v at *
          generalize l[k + 1].toNat = b at *
          exact wrap_sign v b (by have : (64 : Nat) ^ 3 = 262144 := rfl; omega) ⟨h4, hb1⟩
        case measure => simp [intOf]; omega
      · obtain rfl : k = 2 - 1 := by omega
        have hkd : decide (((2 - 1 : Nat) : Int) + 1 < 2) = false := rfl
        obtain ⟨V, hV⟩ : ∃ V, vAt 192 l (2 - 1) = V := ⟨_, rfl⟩
        have hF := HF.out
        rw [show vAt 192 l (2 - 1) = V from hV] at *
        clear HF hvl h64 hV
        have HF := Lib.hid hF
        clear hF
        by_cases hc1 : V < 128
        · have c1 : decide ((V : Int) < 128) = true := decide_eq_true (by omega)
          obtain rfl : S = (0, 0) := HF.out.2 fun hf => by have := hf.2.2.1; omega
          clear HF
          go_wp2_with fail
          go_ret2
          exact ⟨rfl, rfl⟩
        have c1 : decide ((V : Int) < 128) = false := decide_eq_false (by omega)
        by_cases hc2 : 1114111 < V
        · have c2 : decide ((1114111 : Int) < (V : Int)) = true := decide_eq_true (by omega)
          obtain rfl : S = (0, 0) := HF.out.2 fun hf => by have := hf.2.2.2.1; omega
          clear HF
          go_wp2_with fail
          go_ret2
          exact ⟨rfl, rfl⟩
        have c2 : decide ((1114111 : Int) < (V : Int)) = false := decide_eq_false (by omega)
        by_cases hc3 : 55296 ≤ V
        rotate_left 1
        · have c3 : decide ((55296 : Int) ≤ (V : Int)) = false := decide_eq_false (by omega)
          obtain rfl : S = (V, 2) := HF.out.1 ⟨hlen, hok, by omega, by omega, by omega⟩
          clear HF
          go_wp2_with fail
          go_ret2
          exact ⟨rfl, rfl⟩
        have c3 : decide ((55296 : Int) ≤ (V : Int)) = true := decide_eq_true (by omega)
        by_cases hc4 : V ≤ 57343
        · have c4 : decide ((V : Int) ≤ 57343) = true := decide_eq_true (by omega)
          obtain rfl : S = (0, 0) := HF.out.2 fun hf => by have := hf.2.2.2.2; omega
          clear HF
          go_wp2_with fail
          go_ret2
          exact ⟨rfl, rfl⟩
        · have c4 : decide ((V : Int) ≤ 57343) = false := decide_eq_false (by omega)
          obtain rfl : S = (V, 2) := HF.out.1 ⟨hlen, hok, by omega, by omega, by omega⟩
          clear HF
          go_wp2_with fail
          go_ret2
          exact ⟨rfl, rfl⟩
  · have hh := h
    rw [hg0] at hh
    have g192 : decide ((192 : Int) ≤ (l[0].toNat : Int)) = true := decide_eq_true (by omega)
    have k224 : decide ((l[0].toNat : Int) < 224) = false := decide_eq_false (by omega)
    have g224 : decide ((224 : Int) ≤ (l[0].toNat : Int)) = true := decide_eq_true (by omega)
    have k240 : decide ((l[0].toNat : Int) < 240) = true := decide_eq_true (by omega)
    clear hh
    have hfit := signF_3 l h
    obtain ⟨S, hS⟩ : ∃ S, signF l = S := ⟨_, rfl⟩
    rw [hS] at hfit ⊢
    rw [hg0] at h
    have HF := Lib.hid hfit
    have hd1 : decide ((l[0].toNat : Int) < 128) = false := decide_eq_false (by omega)
    clear hfit hS hb0
    by_cases hlen : 3 ≤ l.length
    rotate_left 1
    · have hdl : decide ((l.length : Int) < 3) = true := decide_eq_true (by omega)
      obtain rfl : S = (0, 0) := HF.out.2 fun hf => hlen hf.1
      clear HF
      go_wp2_with fail
      go_ret2
      exact ⟨rfl, rfl⟩
    have hdl : decide ((l.length : Int) < 3) = false := decide_eq_false (by omega)
    have hv0 : (l[0].toNat : Int) - 224 = ((vAt 224 l 0 : Nat) : Int) := by show _ = (((l.getD 0 0).toNat - 224 : Nat) : Int); rw [hg0]; omega
    go_wp2_with fail
    go_loop [7, 8, 9] (fun v i d => ∃ k : Nat, k < 3 ∧ v = .int .i64 (vAt 224 l k) ∧ i = .int .i64 (k + 1) ∧ cOk l k) (fun v i d => 3 - (intOf i).toNat)
    case atStart => exact ⟨0, by omega, by rw [← hv0], rfl, cOk_0 l⟩
    case round =>
      obtain ⟨k, hk, rfl, rfl, hok⟩ := hrel
      clear hv0 hd1 hdl
      have hvl := vAt_le 224 l k
      have h64 : (64 : Nat) ^ k ≤ 64 ^ 3 := Nat.pow_le_pow_right (by omega) (by omega)
      by_cases hlt : k + 1 < 3
      · have hg1 : l.getD (k + 1) 0 = l[k + 1] := by rw [List.getD_eq_getElem?_getD, List.getElem?_eq_getElem (show k + 1 < l.length by omega)]; rfl
        have hki : ((k + 1 : Nat) : Int) < ((bs l).size : Int) := by rw [hsz]; omega
        have hlk : (bs l)[k + 1]'(by rw [hsz]; omega) = l[k + 1] := rfl
        have hb1 := l[k + 1].toNat_lt
        have hkd : decide ((k : Int) + 1 < 3) = true := decide_eq_true (by omega)
        have hsk := cOk_s l k
        rw [hg1] at hsk
        by_cases hlo : 128 ≤ l[k + 1].toNat
        rotate_left 1
        · have e1 : decide ((l[k + 1].toNat : Int) < 128) = true := decide_eq_true (by omega)
          obtain rfl : S = (0, 0) := HF.out.2 fun hf => by
            have := hf.2.1 (k + 1) (by omega) (by omega)
            rw [hg1] at this
            omega
          clear HF
          go_wp2_with fail
          go_ret2
          exact ⟨rfl, rfl⟩
        have e1 : decide ((l[k + 1].toNat : Int) < 128) = false := decide_eq_false (by omega)
        by_cases hhi : l[k + 1].toNat ≤ 191
        rotate_left 1
        · have e2 : decide ((191 : Int) < (l[k + 1].toNat : Int)) = true := decide_eq_true (by omega)
          obtain rfl : S = (0, 0) := HF.out.2 fun hf => by
            have := hf.2.1 (k + 1) (by omega) (by omega)
            rw [hg1] at this
            omega
          clear HF
          go_wp2_with fail
          go_ret2
          exact ⟨rfl, rfl⟩
        have e2 : decide ((191 : Int) < (l[k + 1].toNat : Int)) = false := decide_eq_false (by omega)
        have hvs := vAt_s 224 l k
        rw [hg1] at hvs
        have HVS := Lib.hid (And.intro hvs (And.intro hvl h64))
        have HSK := Lib.hid (hsk.2 ⟨hok, hlo, hhi⟩)
        have HLO := Lib.hid (And.intro hlo hhi)
        clear hsk hok hvs hlo hhi hvl h64
        go_wp2_with fail
        go_round
        case rel =>
          refine ⟨k + 1, hlt, ?_, by go_num, HSK.out⟩
          obtain ⟨h1, h2, h3⟩ := HVS.out
          obtain ⟨h4, h5⟩ := HLO.out
          rw [h1]
          congr 1
          generalize vAt 224 l k = v at *
          generalize l[k + 1].toNat = b at *
          exact wrap_sign v b (by have : (64 : Nat) ^ 3 = 262144 := rfl; omega) ⟨h4, hb1⟩
        case measure => simp [intOf]; omega
      · obtain rfl : k = 3 - 1 := by omega
        have hkd : decide (((3 - 1 : Nat) : Int) + 1 < 3) = false := rfl
        obtain ⟨V, hV⟩ : ∃ V, vAt 224 l (3 - 1) = V := ⟨_, rfl⟩
        have hF := HF.out
        rw [show vAt 224 l (3 - 1) = V from hV] at *
        clear HF hvl h64 hV
        have HF := Lib.hid hF
        clear hF
        by_cases hc1 : V < 2048
        · have c1 : decide ((V : Int) < 2048) = true := decide_eq_true (by omega)
          obtain rfl : S = (0, 0) := HF.out.2 fun hf => by have := hf.2.2.1; omega
          clear HF
          go_wp2_with fail
          go_ret2
          exact ⟨rfl, rfl⟩
        have c1 : decide ((V : Int) < 2048) = false := decide_eq_false (by omega)
        by_cases hc2 : 1114111 < V
        · have c2 : decide ((1114111 : Int) < (V : Int)) = true := decide_eq_true (by omega)
          obtain rfl : S = (0, 0) := HF.out.2 fun hf => by have := hf.2.2.2.1; omega
          clear HF
          go_wp2_with fail
          go_ret2
          exact ⟨rfl, rfl⟩
        have c2 : decide ((1114111 : Int) < (V : Int)) = false := decide_eq_false (by omega)
        by_cases hc3 : 55296 ≤ V
        rotate_left 1
        · have c3 : decide ((55296 : Int) ≤ (V : Int)) = false := decide_eq_false (by omega)
          obtain rfl : S = (V, 3) := HF.out.1 ⟨hlen, hok, by omega, by omega, by omega⟩
          clear HF
          go_wp2_with fail
          go_ret2
          exact ⟨rfl, rfl⟩
        have c3 : decide ((55296 : Int) ≤ (V : Int)) = true := decide_eq_true (by omega)
        by_cases hc4 : V ≤ 57343
        · have c4 : decide ((V : Int) ≤ 57343) = true := decide_eq_true (by omega)
          obtain rfl : S = (0, 0) := HF.out.2 fun hf => by have := hf.2.2.2.2; omega
          clear HF
          go_wp2_with fail
          go_ret2
          exact ⟨rfl, rfl⟩
        · have c4 : decide ((V : Int) ≤ 57343) = false := decide_eq_false (by omega)
          obtain rfl : S = (V, 3) := HF.out.1 ⟨hlen, hok, by omega, by omega, by omega⟩
          clear HF
          go_wp2_with fail
          go_ret2
          exact ⟨rfl, rfl⟩
  · have hh := h
    rw [hg0] at hh
    have g192 : decide ((192 : Int) ≤ (l[0].toNat : Int)) = true := decide_eq_true (by omega)
    have k224 : decide ((l[0].toNat : Int) < 224) = false := decide_eq_false (by omega)
    have g224 : decide ((224 : Int) ≤ (l[0].toNat : Int)) = true := decide_eq_true (by omega)
    have k240 : decide ((l[0].toNat : Int) < 240) = false := decide_eq_false (by omega)
    have g240 : decide ((240 : Int) ≤ (l[0].toNat : Int)) = true := decide_eq_true (by omega)
    have k248 : decide ((l[0].toNat : Int) < 248) = true := decide_eq_true (by omega)
    clear hh
    have hfit := signF_4 l h
    obtain ⟨S, hS⟩ : ∃ S, signF l = S := ⟨_, rfl⟩
    rw [hS] at hfit ⊢
    rw [hg0] at h
    have HF := Lib.hid hfit
    have hd1 : decide ((l[0].toNat : Int) < 128) = false := decide_eq_false (by omega)
    clear hfit hS hb0
    by_cases hlen : 4 ≤ l.length
    rotate_left 1
    · have hdl : decide ((l.length : Int) < 4) = true := decide_eq_true (by omega)
      obtain rfl : S = (0, 0) := HF.out.2 fun hf => hlen hf.1
      clear HF
      go_wp2_with fail
      go_ret2
      exact ⟨rfl, rfl⟩
    have hdl : decide ((l.length : Int) < 4) = false := decide_eq_false (by omega)
    have hv0 : (l[0].toNat : Int) - 240 = ((vAt 240 l 0 : Nat) : Int) := by show _ = (((l.getD 0 0).toNat - 240 : Nat) : Int); rw [hg0]; omega
    go_wp2_with fail
    go_loop [7, 8, 9] (fun v i d => ∃ k : Nat, k < 4 ∧ v = .int .i64 (vAt 240 l k) ∧ i = .int .i64 (k + 1) ∧ cOk l k) (fun v i d => 4 - (intOf i).toNat)
    case atStart => exact ⟨0, by omega, by rw [← hv0], rfl, cOk_0 l⟩
    case round =>
      obtain ⟨k, hk, rfl, rfl, hok⟩ := hrel
      clear hv0 hd1 hdl
      have hvl := vAt_le 240 l k
      have h64 : (64 : Nat) ^ k ≤ 64 ^ 3 := Nat.pow_le_pow_right (by omega) (by omega)
      by_cases hlt : k + 1 < 4
      · have hg1 : l.getD (k + 1) 0 = l[k + 1] := by rw [List.getD_eq_getElem?_getD, List.getElem?_eq_getElem (show k + 1 < l.length by omega)]; rfl
        have hki : ((k + 1 : Nat) : Int) < ((bs l).size : Int) := by rw [hsz]; omega
        have hlk : (bs l)[k + 1]'(by rw [hsz]; omega) = l[k + 1] := rfl
        have hb1 := l[k + 1].toNat_lt
        have hkd : decide ((k : Int) + 1 < 4) = true := decide_eq_true (by omega)
        have hsk := cOk_s l k
        rw [hg1] at hsk
        by_cases hlo : 128 ≤ l[k + 1].toNat
        rotate_left 1
        · have e1 : decide ((l[k + 1].toNat : Int) < 128) = true := decide_eq_true (by omega)
          obtain rfl : S = (0, 0) := HF.out.2 fun hf => by
            have := hf.2.1 (k + 1) (by omega) (by omega)
            rw [hg1] at this
            omega
          clear HF
          go_wp2_with fail
          go_ret2
          exact ⟨rfl, rfl⟩
        have e1 : decide ((l[k + 1].toNat : Int) < 128) = false := decide_eq_false (by omega)
        by_cases hhi : l[k + 1].toNat ≤ 191
        rotate_left 1
        · have e2 : decide ((191 : Int) < (l[k + 1].toNat : Int)) = true := decide_eq_true (by omega)
          obtain rfl : S = (0, 0) := HF.out.2 fun hf => by
            have := hf.2.1 (k + 1) (by omega) (by omega)
            rw [hg1] at this
            omega
          clear HF
          go_wp2_with fail
          go_ret2
          exact ⟨rfl, rfl⟩
        have e2 : decide ((191 : Int) < (l[k + 1].toNat : Int)) = false := decide_eq_false (by omega)
        have hvs := vAt_s 240 l k
        rw [hg1] at hvs
        have HVS := Lib.hid (And.intro hvs (And.intro hvl h64))
        have HSK := Lib.hid (hsk.2 ⟨hok, hlo, hhi⟩)
        have HLO := Lib.hid (And.intro hlo hhi)
        clear hsk hok hvs hlo hhi hvl h64
        go_wp2_with fail
        go_round
        case rel =>
          refine ⟨k + 1, hlt, ?_, by go_num, HSK.out⟩
          obtain ⟨h1, h2, h3⟩ := HVS.out
          obtain ⟨h4, h5⟩ := HLO.out
          rw [h1]
          congr 1
          generalize vAt 240 l k = v at *
          generalize l[k + 1].toNat = b at *
          exact wrap_sign v b (by have : (64 : Nat) ^ 3 = 262144 := rfl; omega) ⟨h4, hb1⟩
        case measure => simp [intOf]; omega
      · obtain rfl : k = 4 - 1 := by omega
        have hkd : decide (((4 - 1 : Nat) : Int) + 1 < 4) = false := rfl
        obtain ⟨V, hV⟩ : ∃ V, vAt 240 l (4 - 1) = V := ⟨_, rfl⟩
        have hF := HF.out
        rw [show vAt 240 l (4 - 1) = V from hV] at *
        clear HF hvl h64 hV
        have HF := Lib.hid hF
        clear hF
        by_cases hc1 : V < 65536
        · have c1 : decide ((V : Int) < 65536) = true := decide_eq_true (by omega)
          obtain rfl : S = (0, 0) := HF.out.2 fun hf => by have := hf.2.2.1; omega
          clear HF
          go_wp2_with fail
          go_ret2
          exact ⟨rfl, rfl⟩
        have c1 : decide ((V : Int) < 65536) = false := decide_eq_false (by omega)
        by_cases hc2 : 1114111 < V
        · have c2 : decide ((1114111 : Int) < (V : Int)) = true := decide_eq_true (by omega)
          obtain rfl : S = (0, 0) := HF.out.2 fun hf => by have := hf.2.2.2.1; omega
          clear HF
          go_wp2_with fail
          go_ret2
          exact ⟨rfl, rfl⟩
        have c2 : decide ((1114111 : Int) < (V : Int)) = false := decide_eq_false (by omega)
        by_cases hc3 : 55296 ≤ V
        rotate_left 1
        · have c3 : decide ((55296 : Int) ≤ (V : Int)) = false := decide_eq_false (by omega)
          obtain rfl : S = (V, 4) := HF.out.1 ⟨hlen, hok, by omega, by omega, by omega⟩
          clear HF
          go_wp2_with fail
          go_ret2
          exact ⟨rfl, rfl⟩
        have c3 : decide ((55296 : Int) ≤ (V : Int)) = true := decide_eq_true (by omega)
        by_cases hc4 : V ≤ 57343
        · have c4 : decide ((V : Int) ≤ 57343) = true := decide_eq_true (by omega)
          obtain rfl : S = (0, 0) := HF.out.2 fun hf => by have := hf.2.2.2.2; omega
          clear HF
          go_wp2_with fail
          go_ret2
          exact ⟨rfl, rfl⟩
        · have c4 : decide ((V : Int) ≤ 57343) = false := decide_eq_false (by omega)
          obtain rfl : S = (V, 4) := HF.out.1 ⟨hlen, hok, by omega, by omega, by omega⟩
          clear HF
          go_wp2_with fail
          go_ret2
          exact ⟨rfl, rfl⟩
  · rw [signF_bad l (by rw [hg0]; omega) (by first | exact .inl h | exact .inr h)]
    rw [hg0] at h
    have g192 : decide ((192 : Int) ≤ (l[0].toNat : Int)) = false := decide_eq_false (by omega)
    have g224 : decide ((224 : Int) ≤ (l[0].toNat : Int)) = false := decide_eq_false (by omega)
    have g240 : decide ((240 : Int) ≤ (l[0].toNat : Int)) = false := decide_eq_false (by omega)
    have hd1 : decide ((l[0].toNat : Int) < 128) = false := decide_eq_false (by omega)
    go_wp2_with fail
    go_ret2
    exact ⟨rfl, rfl⟩
  · rw [signF_bad l (by rw [hg0]; omega) (by first | exact .inl h | exact .inr h)]
    rw [hg0] at h
    have g192 : decide ((192 : Int) ≤ (l[0].toNat : Int)) = true := decide_eq_true (by omega)
    have k224 : decide ((l[0].toNat : Int) < 224) = false := decide_eq_false (by omega)
    have g224 : decide ((224 : Int) ≤ (l[0].toNat : Int)) = true := decide_eq_true (by omega)
    have k240 : decide ((l[0].toNat : Int) < 240) = false := decide_eq_false (by omega)
    have g240 : decide ((240 : Int) ≤ (l[0].toNat : Int)) = true := decide_eq_true (by omega)
    have k248 : decide ((l[0].toNat : Int) < 248) = false := decide_eq_false (by omega)
    have hd1 : decide ((l[0].toNat : Int) < 128) = false := decide_eq_false (by omega)
    go_wp2_with fail
    go_ret2
    exact ⟨rfl, rfl⟩
end Go.Proofs.YtkghpmpmcafhkaaGreatDoor

namespace Go.Proofs.YtkghpmpmcafhkaaGreatDoor
open Go.RowKit

theorem signF_cases (l : List UInt8) : (badB l = true ∧ signF l = (0, 0) ∧ (Lib.decodeL l).2 = 1) ∨ (badB l = false ∧ signF l = Lib.decodeL l ∧ 1 ≤ (Lib.decodeL l).2) := by
  unfold signF
  cases h : badB l
  · exact .inr ⟨rfl, by simp, Lib.decodeL_width l⟩
  · refine .inl ⟨rfl, by simp, ?_⟩
    unfold badB at h
    simp only [Bool.and_eq_true, beq_iff_eq] at h
    exact h.2
theorem sig_F {l : List UInt8} (h : l ≠ []) : sigB l = if (signF l).2 = 0 ∨ mayB (signF l).1 = false then false else sigB (l.drop (signF l).2) := by
  rw [sigB_step l h]
  rcases signF_cases l with ⟨h1, h2, h3⟩ | ⟨h1, h2, h3⟩
  · rw [if_pos (.inl h1), h2, if_pos (.inl rfl)]
  · rw [h2, h1]
    by_cases hm : mayB (Lib.decodeL l).1 = false
    · rw [if_pos (.inr hm), if_pos (.inr hm)]
    · rw [if_neg (by simpa using hm), if_neg (by rintro (h | h); omega; exact hm h)]
theorem esc_F (v : Bool) {l : List UInt8} (h : l ≠ []) : escF v l = if (signF l).2 = 0 then escF v (l.drop 1) else (if mayB (signF l).1 = false then [] else (escT (signF l).1 v).getD (l.take (signF l).2)) ++ escF v (l.drop (signF l).2) := by
  rw [escF_step v l h]
  unfold escOne
  rcases signF_cases l with ⟨h1, h2, h3⟩ | ⟨h1, h2, h3⟩
  · rw [if_pos (.inl h1), h2, if_pos rfl, h3, List.nil_append]
  · rw [h2, h1, if_neg (by omega : ¬ (Lib.decodeL l).2 = 0)]
    congr 1
    by_cases hm : mayB (Lib.decodeL l).1 = false
    · rw [if_pos (.inr hm), if_pos hm]
    · rw [if_neg (by simpa using hm), if_neg hm]
theorem signF_le {l : List UInt8} (h : l ≠ []) : (signF l).2 ≤ l.length := by
  rcases signF_cases l with ⟨h1, h2, h3⟩ | ⟨h1, h2, h3⟩
  · rw [h2]; exact Nat.zero_le _
  · rw [h2]; exact Lib.decodeL_le l h
theorem signF_v (l : List UInt8) : (signF l).1 ≤ 1114111 := by
  rcases signF_cases l with ⟨h1, h2, h3⟩ | ⟨h1, h2, h3⟩
  · rw [h2]; exact Nat.zero_le _
  · rw [h2]; exact Lib.decodeL_rune l
theorem sig_nil : sigB [] = true := rfl
theorem drop_ne' {l : List UInt8} {k : Nat} (h : k < l.length) : l.drop k ≠ [] := by
  intro e
  have := congrArg List.length e
  simp at this
  omega
theorem ext_drop (l : List UInt8) (k : Nat) : (bs l).extract k l.length = bs (l.drop k) := by
  rw [bs_extract, List.take_of_length_le (by simp)]
set_option maxRecDepth 20000 in
set_option maxHeartbeats 2000000 in
theorem rsigns_any (l : List UInt8) (hm : l.length ≤ 1099511627776) (w : World) : Calls Tryz.prog 115 #[.string (bs l)] w fun e w' => e = .returned (.bool (sigB l)) ∧ w' = w := by
  have hsz := bs_size l
  obtain ⟨R, hR⟩ : ∃ R, sigB l = R := ⟨_, rfl⟩
  rw [hR]
  have HR := Lib.hid hR
  clear hR
  go_enter Tryz.func115, Tryz.ntmps115
  go_wp2_with fail
  go_loop [3, 4, 5] (fun a _ _ => ∃ k : Nat, k ≤ l.length ∧ a = .int .i64 k ∧ sigB (l.drop k) = R) (fun a _ _ => l.length - (intOf a).toNat)
  case atStart => exact ⟨0, by omega, rfl, HR.out⟩
  case round =>
    obtain ⟨k, hk, rfl, hgo⟩ := hrel
    by_cases hlt : k < l.length
    · have hki : (k : Int) < (l.length : Int) := by omega
      have hki2 : (k : Int) ≤ (l.length : Int) := by omega
      have hne := drop_ne' hlt
      have hle := signF_le hne
      have hv := signF_v (l.drop k)
      rw [List.length_drop] at hle
      rw [sig_F hne, List.drop_drop] at hgo
      have HS := Lib.hid (rsign_any (l.drop k) hne (by rw [List.length_drop]; omega) w)
      rw [← ext_drop] at HS
      clear hne
      obtain ⟨⟨v, n⟩, hvn⟩ : ∃ p, signF (l.drop k) = p := ⟨_, rfl⟩
      rw [hvn] at hgo hle hv HS
      clear hvn
      have HM := Lib.hid (rmay_any v w)
      dsimp only at hgo hle hv HS
      by_cases hn : n = 0
      · subst hn
        rw [if_pos (.inl rfl)] at hgo
        subst hgo
        go_wp2_with (go_at_call 61; refine HS.out.mono ?_; rintro e w2 ⟨rfl, rfl⟩)
        go_ret
        exact ⟨rfl, rfl⟩
      have hnz : ((n : Int) == 0) = false := beq_eq_false_iff_ne.2 (by omega)
      cases hmb : mayB v <;> rw [hmb] at hgo HM
      · rw [if_pos (.inr rfl)] at hgo
        subst hgo
        go_wp2_with (first | (go_at_call 61; refine HS.out.mono ?_; rintro e w2 ⟨rfl, rfl⟩) | (go_at_call 62; refine HM.out.mono ?_; rintro e w2 ⟨rfl, rfl⟩))
        go_ret
        exact ⟨rfl, rfl⟩
      · rw [if_neg (by rintro (h | h); exact hn h; cases h)] at hgo
        go_wp2_with (first | (go_at_call 61; refine HS.out.mono ?_; rintro e w2 ⟨rfl, rfl⟩) | (go_at_call 62; refine HM.out.mono ?_; rintro e w2 ⟨rfl, rfl⟩))
        go_round
        case rel => exact ⟨k + n, by omega, by go_num, hgo⟩
        case measure => simp [intOf]; omega
    · obtain rfl : k = l.length := by omega
      rw [List.drop_of_length_le (Nat.le_refl _), sig_nil] at hgo
      subst hgo
      go_wp2_with fail
      go_ret
      exact ⟨rfl, rfl⟩
set_option maxRecDepth 20000 in
set_option maxHeartbeats 4000000 in
theorem resc_any (l : List UInt8) (v : Bool) (hm : l.length ≤ 1000000) (w : World) : Calls Tryz.prog 26 #[.string (bs l), .bool v] w fun e w' => e = .returned (.string (bs (escF v l))) ∧ w' = w := by
  have hsz := bs_size l
  have hlen := escF_len v l.length l (Nat.le_refl _)
  obtain ⟨R, hR⟩ : ∃ R, escF v l = R := ⟨_, rfl⟩
  rw [hR] at hlen ⊢
  have HR := Lib.hid hR
  clear hR
  go_enter Tryz.func26, Tryz.ntmps26
  go_wp2_with fail
  go_loop [5, 6, 7, 8, 9] (fun o a _ _ _ => ∃ (k : Nat) (acc : List UInt8), k ≤ l.length ∧ a = .int .i64 k ∧ o = .string (bs acc) ∧ acc ++ escF v (l.drop k) = R) (fun _ a _ _ _ => l.length - (intOf a).toNat)
  case atStart => exact ⟨0, [], by omega, rfl, rfl, HR.out⟩
  case round =>
    obtain ⟨k, acc, hk, rfl, rfl, hgo⟩ := hrel
    by_cases hlt : k < l.length
    · have hki : (k : Int) < (l.length : Int) := by omega
      have hki2 : (k : Int) ≤ (l.length : Int) := by omega
      have hne := drop_ne' hlt
      have hle := signF_le hne
      have hv := signF_v (l.drop k)
      rw [List.length_drop] at hle
      rw [esc_F v hne, List.drop_drop, List.drop_drop] at hgo
      have HS := Lib.hid (rsign_any (l.drop k) hne (by rw [List.length_drop]; omega) w)
      rw [← ext_drop] at HS
      clear hne
      obtain ⟨⟨z, n⟩, hvn⟩ : ∃ p, signF (l.drop k) = p := ⟨_, rfl⟩
      rw [hvn] at hgo hle hv HS
      clear hvn
      have HM := Lib.hid (rmay_any z w)
      dsimp only at hgo hle hv HS
      by_cases hn : n = 0
      · subst hn
        rw [if_pos rfl] at hgo
        clear HM
        go_wp2_with (go_at_call 61; refine HS.out.mono ?_; rintro e w2 ⟨rfl, rfl⟩)
        go_round
        case rel => exact ⟨k + 1, acc, by omega, by go_num, rfl, hgo⟩
        case measure => simp [intOf]; omega
      have hnz : ((n : Int) == 0) = false := beq_eq_false_iff_ne.2 (by omega)
      rw [if_neg hn] at hgo
      have hx1 : ((k : Int) + (n : Int)) ≤ (l.length : Int) := by omega
      have hx2 : (k : Int) ≤ (k : Int) + (n : Int) := by omega
      have hext : (bs l).extract k (k + n) = bs ((l.drop k).take n) := by rw [bs_extract, show k + n - k = n from by omega]
      have hal : acc.length ≤ 6000000 := by have := congrArg List.length hgo; rw [List.length_append] at this; omega
      cases hmb : mayB z <;> rw [hmb] at hgo HM
      · rw [if_pos rfl, List.nil_append] at hgo
        have hadd : ∀ w, (Op.stringOp .add (bs acc) ⟨#[]⟩).run Tryz.prog w = .ok (.string (bs acc)) w := fun w => by
          have := run_str_add (P := Tryz.prog) w acc [] (by simp; omega)
          rwa [List.append_nil] at this
        go_wp2_with (first | (go_at_call 61; refine HS.out.mono ?_; rintro e w2 ⟨rfl, rfl⟩) | (go_at_call 62; refine HM.out.mono ?_; rintro e w2 ⟨rfl, rfl⟩))
        go_round
        case rel => exact ⟨k + n, _, by omega, by go_num, rfl, hgo⟩
        case measure => simp [intOf]; omega
      rw [if_neg (by decide)] at hgo
      have HMB := Lib.hid hmb
      clear hmb
      by_cases h60 : z = 60
      · subst h60
        rw [show (escT 60 v).getD ((l.drop k).take n) = [38, 108, 116, 59] from rfl, ← List.append_assoc] at hgo
        have hadd : ∀ w, (Op.stringOp .add (bs acc) ⟨#[38, 108, 116, 59]⟩).run Tryz.prog w = .ok (.string (bs (acc ++ [38, 108, 116, 59]))) w := fun w => run_str_add (P := Tryz.prog) w acc [38, 108, 116, 59] (by simp; omega)
        go_wp2_with (first | (go_at_call 61; refine HS.out.mono ?_; rintro e w2 ⟨rfl, rfl⟩) | (go_at_call 62; refine HM.out.mono ?_; rintro e w2 ⟨rfl, rfl⟩))
        go_round
        case rel => exact ⟨k + n, _, by omega, by go_num, rfl, hgo⟩
        case measure => simp [intOf]; omega
      have e60 : ((z : Int) == 60) = false := beq_eq_false_iff_ne.2 (by omega)
      by_cases h62 : z = 62
      · subst h62
        rw [show (escT 62 v).getD ((l.drop k).take n) = [38, 103, 116, 59] from rfl, ← List.append_assoc] at hgo
        have hadd : ∀ w, (Op.stringOp .add (bs acc) ⟨#[38, 103, 116, 59]⟩).run Tryz.prog w = .ok (.string (bs (acc ++ [38, 103, 116, 59]))) w := fun w => run_str_add (P := Tryz.prog) w acc [38, 103, 116, 59] (by simp; omega)
        go_wp2_with (first | (go_at_call 61; refine HS.out.mono ?_; rintro e w2 ⟨rfl, rfl⟩) | (go_at_call 62; refine HM.out.mono ?_; rintro e w2 ⟨rfl, rfl⟩))
        go_round
        case rel => exact ⟨k + n, _, by omega, by go_num, rfl, hgo⟩
        case measure => simp [intOf]; omega
      have e62 : ((z : Int) == 62) = false := beq_eq_false_iff_ne.2 (by omega)
      by_cases h38 : z = 38
      · subst h38
        rw [show (escT 38 v).getD ((l.drop k).take n) = [38, 97, 109, 112, 59] from rfl, ← List.append_assoc] at hgo
        have hadd : ∀ w, (Op.stringOp .add (bs acc) ⟨#[38, 97, 109, 112, 59]⟩).run Tryz.prog w = .ok (.string (bs (acc ++ [38, 97, 109, 112, 59]))) w := fun w => run_str_add (P := Tryz.prog) w acc [38, 97, 109, 112, 59] (by simp; omega)
        go_wp2_with (first | (go_at_call 61; refine HS.out.mono ?_; rintro e w2 ⟨rfl, rfl⟩) | (go_at_call 62; refine HM.out.mono ?_; rintro e w2 ⟨rfl, rfl⟩))
        go_round
        case rel => exact ⟨k + n, _, by omega, by go_num, rfl, hgo⟩
        case measure => simp [intOf]; omega
      have e38 : ((z : Int) == 38) = false := beq_eq_false_iff_ne.2 (by omega)
      by_cases h13 : z = 13
      · subst h13
        rw [show (escT 13 v).getD ((l.drop k).take n) = [38, 35, 49, 51, 59] from rfl, ← List.append_assoc] at hgo
        have hadd : ∀ w, (Op.stringOp .add (bs acc) ⟨#[38, 35, 49, 51, 59]⟩).run Tryz.prog w = .ok (.string (bs (acc ++ [38, 35, 49, 51, 59]))) w := fun w => run_str_add (P := Tryz.prog) w acc [38, 35, 49, 51, 59] (by simp; omega)
        go_wp2_with (first | (go_at_call 61; refine HS.out.mono ?_; rintro e w2 ⟨rfl, rfl⟩) | (go_at_call 62; refine HM.out.mono ?_; rintro e w2 ⟨rfl, rfl⟩))
        go_round
        case rel => exact ⟨k + n, _, by omega, by go_num, rfl, hgo⟩
        case measure => simp [intOf]; omega
      have e13 : ((z : Int) == 13) = false := beq_eq_false_iff_ne.2 (by omega)
      have HX0 := Lib.hid (And.intro h60 (And.intro h62 (And.intro h38 h13)))
      clear h60 h62 h38 h13
      cases v
      · have hn0 : escT z false = none := by obtain ⟨a, b, c, d⟩ := HX0.out; unfold escT; rw [if_neg a, if_neg b, if_neg c, if_neg d, if_pos rfl]
        rw [hn0, Option.getD_none, ← List.append_assoc] at hgo
        have hadd : ∀ w, (Op.stringOp .add (bs acc) (bs ((l.drop k).take n))).run Tryz.prog w = .ok (.string (bs (acc ++ (l.drop k).take n))) w := fun w => run_str_add (P := Tryz.prog) w acc _ (by rw [List.length_take, List.length_drop]; omega)
        clear hn0
        go_wp2_with (first | (go_at_call 61; refine HS.out.mono ?_; rintro e w2 ⟨rfl, rfl⟩) | (go_at_call 62; refine HM.out.mono ?_; rintro e w2 ⟨rfl, rfl⟩))
        go_round
        case rel => exact ⟨k + n, _, by omega, by go_num, rfl, hgo⟩
        case measure => simp [intOf]; omega
      have hT : escT z true = if z = 34 then some [38, 113, 117, 111, 116, 59] else if z = 9 then some [38, 35, 57, 59] else if z = 10 then some [38, 35, 49, 48, 59] else none := by obtain ⟨a, b, c, d⟩ := HX0.out; unfold escT; rw [if_neg a, if_neg b, if_neg c, if_neg d, if_neg (by decide)]
      rw [hT] at hgo
      clear hT
      by_cases h34 : z = 34
      · subst h34
        rw [show (if (34 : Nat) = 34 then some [38, 113, 117, 111, 116, 59] else if (34 : Nat) = 9 then some [38, 35, 57, 59] else if (34 : Nat) = 10 then some [38, 35, 49, 48, 59] else none : Option (List UInt8)).getD ((l.drop k).take n) = [38, 113, 117, 111, 116, 59] from rfl, ← List.append_assoc] at hgo
        have hadd : ∀ w, (Op.stringOp .add (bs acc) ⟨#[38, 113, 117, 111, 116, 59]⟩).run Tryz.prog w = .ok (.string (bs (acc ++ [38, 113, 117, 111, 116, 59]))) w := fun w => run_str_add (P := Tryz.prog) w acc [38, 113, 117, 111, 116, 59] (by simp; omega)
        go_wp2_with (first | (go_at_call 61; refine HS.out.mono ?_; rintro e w2 ⟨rfl, rfl⟩) | (go_at_call 62; refine HM.out.mono ?_; rintro e w2 ⟨rfl, rfl⟩))
        go_round
        case rel => exact ⟨k + n, _, by omega, by go_num, rfl, hgo⟩
        case measure => simp [intOf]; omega
      have e34 : ((z : Int) == 34) = false := beq_eq_false_iff_ne.2 (by omega)
      rw [if_neg h34] at hgo
      clear h34
      by_cases h9 : z = 9
      · subst h9
        rw [show (if (9 : Nat) = 9 then some [38, 35, 57, 59] else if (9 : Nat) = 10 then some [38, 35, 49, 48, 59] else none : Option (List UInt8)).getD ((l.drop k).take n) = [38, 35, 57, 59] from rfl, ← List.append_assoc] at hgo
        have hadd : ∀ w, (Op.stringOp .add (bs acc) ⟨#[38, 35, 57, 59]⟩).run Tryz.prog w = .ok (.string (bs (acc ++ [38, 35, 57, 59]))) w := fun w => run_str_add (P := Tryz.prog) w acc [38, 35, 57, 59] (by simp; omega)
        go_wp2_with (first | (go_at_call 61; refine HS.out.mono ?_; rintro e w2 ⟨rfl, rfl⟩) | (go_at_call 62; refine HM.out.mono ?_; rintro e w2 ⟨rfl, rfl⟩))
        go_round
        case rel => exact ⟨k + n, _, by omega, by go_num, rfl, hgo⟩
        case measure => simp [intOf]; omega
      have e9 : ((z : Int) == 9) = false := beq_eq_false_iff_ne.2 (by omega)
      rw [if_neg h9] at hgo
      clear h9
      by_cases h10 : z = 10
      · subst h10
        rw [show (if (10 : Nat) = 10 then some [38, 35, 49, 48, 59] else none : Option (List UInt8)).getD ((l.drop k).take n) = [38, 35, 49, 48, 59] from rfl, ← List.append_assoc] at hgo
        have hadd : ∀ w, (Op.stringOp .add (bs acc) ⟨#[38, 35, 49, 48, 59]⟩).run Tryz.prog w = .ok (.string (bs (acc ++ [38, 35, 49, 48, 59]))) w := fun w => run_str_add (P := Tryz.prog) w acc [38, 35, 49, 48, 59] (by simp; omega)
        go_wp2_with (first | (go_at_call 61; refine HS.out.mono ?_; rintro e w2 ⟨rfl, rfl⟩) | (go_at_call 62; refine HM.out.mono ?_; rintro e w2 ⟨rfl, rfl⟩))
        go_round
        case rel => exact ⟨k + n, _, by omega, by go_num, rfl, hgo⟩
        case measure => simp [intOf]; omega
      have e10 : ((z : Int) == 10) = false := beq_eq_false_iff_ne.2 (by omega)
      rw [if_neg h10] at hgo
      clear h10
      rw [Option.getD_none, ← List.append_assoc] at hgo
      have hadd : ∀ w, (Op.stringOp .add (bs acc) (bs ((l.drop k).take n))).run Tryz.prog w = .ok (.string (bs (acc ++ (l.drop k).take n))) w := fun w => run_str_add (P := Tryz.prog) w acc _ (by rw [List.length_take, List.length_drop]; omega)
      go_wp2_with (first | (go_at_call 61; refine HS.out.mono ?_; rintro e w2 ⟨rfl, rfl⟩) | (go_at_call 62; refine HM.out.mono ?_; rintro e w2 ⟨rfl, rfl⟩))
      go_round
      case rel => exact ⟨k + n, _, by omega, by go_num, rfl, hgo⟩
      case measure => simp [intOf]; omega
    · obtain rfl : k = l.length := by omega
      rw [List.drop_of_length_le (Nat.le_refl _), escF_nil, List.append_nil] at hgo
      subst hgo
      go_wp2_with fail
      go_ret
      exact ⟨rfl, rfl⟩
end Go.Proofs.YtkghpmpmcafhkaaGreatDoor
