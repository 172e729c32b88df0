/- XmlB -/
import Derived.Test.YthboiahdheehkaaGreatDoorPA
import Derived.Test.YthboiahdheehkaaGreatDoorProg
import Derived.Shelf.Strings.BuilderRune
import Derived.Test.YthboiahdheehkaaGreatDoorPB
import Derived.Test.YthboiahdheehkaaGreatDoorShelf
import Derived.Test.YthboiahdheehkaaGreatDoorShelfV
open List renaming length_append → lF
open Array renaming getElem?_eq_some_iff → aA
open Option renaming map_eq_some_iff → oB
open Nat renaming le_refl → nR, le_trans → nT
open Go.Proofs.Tryz renaming prog → pG
open Go.Value renaming string → S
open Go.Value renaming slice → C
open Go.Value renaming pointer → A
open Go.Ending renaming returned → EE
namespace Go.Proofs.YthboiahdheehkaaGreatDoor
section
set_option maxHeartbeats 8000000
set_option maxRecDepth 100000
open Go.RowKit
structure BTy (T : TypeId) : Prop where
 lies : liesAt pG pG.depth T (2 / pG.cellsOf T) 0 130 1 = true
 ne : T ≠ 5
theorem bty_own : BTy 130 := ⟨by kernel_rfl, by decide⟩
abbrev IsB (T : TypeId) (B b : Nat) (l : List UInt8) (w : World) : Prop := Lib.IsBuilderF T 5 B b (Lib.byteCells l) w
theorem bsize : (pG.info? 130).map (·.size) = some 2 := by kernel_rfl
theorem u8info : (pG.info? 5).map (fun i => (i.zero, i.size, i.bytes)) = some (some (.int .u8 0), 1, 1) := by kernel_rfl
theorem bcheck_used (b : Nat) (w : World) (h0 : w.cell? ⟨b, 0, none⟩ = some (A (some ⟨b, 0, none⟩))) :
  Calls pG 221 #[A (some ⟨b, 0, none⟩)] w fun e w' => e = EE (.tuple #[]) ∧ w' = w := by
 obtain ⟨j, hj, _⟩ := oB.1 bsize
 go_enter Tryz.func221, Tryz.ntmps221
 go_wp2
 rw [Lib.run_neq_ptr_same w _ Tryz.underlying127 hj]
 go_wp2
 go_end0
 exact ⟨rfl, rfl⟩
theorem bcheck_fresh {T : TypeId} (hT : BTy T) (b : Nat) (w : World) (h0 : w.cell? ⟨b, 0, none⟩ = some (.pointer none)) (hsh : w.shape? b = some (T, 2)) (hfz : w.frozen? ⟨b, 0, none⟩ = false) :
  Calls pG 221 #[A (some ⟨b, 0, none⟩)] w fun e w' => e = EE (.tuple #[]) ∧ w' = w.setCell ⟨b, 0, none⟩ (A (some ⟨b, 0, none⟩)) := by
 obtain ⟨j, hj, hjs⟩ := oB.1 bsize
 go_enter Tryz.func221, Tryz.ntmps221
 go_wp2
 rw [Lib.run_to_unsafe w ⟨b, 0, none⟩ Tryz.underlying127 Tryz.underlying293 hj (by rw [hjs]; decide) hsh (Nat.zero_lt_succ 1)]
 simp only [Result.andThen]
 rw [Oper.upon_value]
 go_wp2
 rw [run_callFunc_extern Tryz.func250 (by kernel_rfl) (by kernel_rfl) (by kernel_rfl) (e := Extern.AbiNoEscape.same) (by kernel_rfl)]
 rw [Lib.run_noEscape]
 simp only [Result.andThen]
 rw [Oper.upon_value]
 go_wp2
 rw [Lib.run_from_unsafe w ⟨b, 0, none⟩ Tryz.underlying293 Tryz.underlying127 hj hsh hT.lies]
 simp only [Result.andThen]
 rw [Oper.upon_value]
 go_wp2
 go_end0
 exact ⟨rfl, rfl⟩
theorem bcheck_any {T : TypeId} (hT : BTy T) (B b : Nat) (cs : List Value) (w : World) (h : Lib.IsBuilderF T 5 B b cs w) :
  Calls pG 221 #[A (some ⟨b, 0, none⟩)] w fun e w' => e = EE (.tuple #[]) ∧ (Lib.BuilderAtF T 5 B b (A (some ⟨b, 0, none⟩)) cs w' ∧ Below B w w' ∧ Lib.OthersKept 5 (some b) w w') := by
 rcases h with h | h
 ·refine (bcheck_fresh hT b w h.cell0 h.shape h.frozen0).mono ?_
  rintro e w' ⟨rfl, rfl⟩
  exact ⟨rfl, h.used _, (Below.refl B w).setCell (p := ⟨b, 0, none⟩) h.1 _, (Lib.OthersKept.refl _ _ w).setCell ⟨b, 0, none⟩ rfl _⟩
 ·refine (bcheck_used b w h.cell0).mono ?_
  rintro e w' ⟨rfl, rfl⟩
  exact ⟨rfl, h, Below.refl B _, Lib.OthersKept.refl _ _ _⟩
theorem blen_any {T : TypeId} (B b : Nat) (l : List UInt8) (w : World) (h : IsB T B b l w) :
  Calls pG 174 #[A (some ⟨b, 0, none⟩)] w fun e w' => e = EE (.int .i64 l.length) ∧ w' = w := by
 obtain ⟨p, hB, v, hbk, hown, hne⟩ : ∃ p, Lib.BuilderAtF T 5 B b p (Lib.byteCells l) w := by
  rcases h with h | h
  ·exact ⟨_, h⟩
  ·exact ⟨_, h⟩
 rw [Lib.byteCells_length] at hown
 obtain ⟨ao, cap, rfl⟩ : ∃ ao cap, v = C ao l.length cap := by
  rcases hown.2 with ⟨hv, h0⟩ | ⟨g, cap, cur, fz, hv, _⟩
  ·exact ⟨none, 0, by rw [hv, h0]⟩
  ·exact ⟨_, _, hv⟩
 have c1 : w.cell? ⟨b, 1, none⟩ = some (C ao l.length cap) := by rw [Lib.cell_of_heap hbk]; rfl
 go_enter Tryz.func174, Tryz.ntmps174
 go_wp2
 go_ret
 exact ⟨rfl, rfl⟩
theorem bwrite_cells {T : TypeId} (hT : BTy T) (B b : Nat) (cs : List Value) (s : ByteArray) (w : World) (h : Lib.IsBuilderF T 5 B b cs w) (hlen : cs.length + s.size ≤ 140737488355328) (hBw : B ≤ w.heap.size) :
  Calls pG 175 #[A (some ⟨b, 0, none⟩), .string s] w fun e w' => e = EE (.tuple #[.int .i64 s.size, .nilIface]) ∧ (Lib.BuilderAtF T 5 B b (A (some ⟨b, 0, none⟩)) (cs ++ Lib.strCells s) w' ∧ Below B w w' ∧ Lib.OthersKept 5 (some b) w w') := by
 obtain ⟨i0, hi, hz0, hz1, hz2⟩ := info_parts u8info
 go_enter Tryz.func175, Tryz.ntmps175
 go_wp2_with (go_at_call 221; refine (bcheck_any hT B b cs _ h).mono ?_)
 rintro e w1 ⟨rfl, h1, hb1, hk1⟩
 obtain ⟨hB, v, hbk, hown, hne⟩ := h1
 have c0 : w1.cell? ⟨b, 0, none⟩ = some (A (some ⟨b, 0, none⟩)) := by rw [Lib.cell_of_heap hbk]; rfl
 have c1 : w1.cell? ⟨b, 1, none⟩ = some v := by rw [Lib.cell_of_heap hbk]; rfl
 go_wp2_with (at_builtin; refine Lib.wpList_append_own_stringF _ rfl _ _ 128 9 rfl B 5 i0 Tryz.underlying128 Tryz.underlying9 hi hz0 hz1 hz2 _ _ _ rfl hown s rfl ?c3 ?c4 ?c5 ?_)
 case c3 => unfold maxLen; omega
 case c4 => omega
 case c5 => have := hb1.size; omega
 intro v' w2 hown' hgrow _
 have hlt : b < w1.heap.size := by
  rcases Nat.lt_or_ge b w1.heap.size with h' | h'
  ·exact h'
  ·simp [Array.getElem?_eq_none h'] at hbk
 have hb2 : w2.heap[b]? = some (.cells #[A (some ⟨b, 0, none⟩), v] T (0, 0)) := by
  rw [hgrow.block b hlt (fun e => hne e.symm)]
  exact hbk
 have d0 : w2.cell? ⟨b, 0, none⟩ = some (A (some ⟨b, 0, none⟩)) := by rw [Lib.cell_of_heap hb2]; rfl
 have d1 : w2.cell? ⟨b, 1, none⟩ = some v := by rw [Lib.cell_of_heap hb2]; rfl
 have f1 : w2.frozen? ⟨b, 1, none⟩ = false := Lib.frozen_of_heap hb2 1
 obtain ⟨ao, n', cap, rfl⟩ : ∃ ao n' cap, v' = C ao n' cap := by
  rcases hown'.2 with ⟨hv, _⟩ | ⟨g, cap, cur, fz, hv, _⟩
  ·exact ⟨_, _, _, hv⟩
  ·exact ⟨_, _, _, hv⟩
 go_wp2
 go_ret2
 refine ⟨rfl, ?_, ?_, (hk1.grown hgrow (Lib.ownsRowF_kind hown)).setCell ⟨b, 1, none⟩ rfl _⟩
 ·exact Lib.BuilderAtF.put (T := T) (e := 5) hB hb2 (bs' := cs ++ Lib.strCells s) (by simpa [Lib.strCells_length] using hown') hT.ne
 ·exact (hb1.grown hgrow (by have := hb1.size; omega) (fun k hk => (hown.lt k hk).1)).setCell (p := ⟨b, 1, none⟩) hB _
theorem bwrite_any {T : TypeId} (hT : BTy T) (B b : Nat) (l m : List UInt8) (w : World) (h : IsB T B b l w) (hlen : l.length + m.length ≤ 140737488355328) (hBw : B ≤ w.heap.size) :
  Calls pG 175 #[A (some ⟨b, 0, none⟩), S (bs m)] w fun e w' => (e = EE (.tuple #[.int .i64 m.length, .nilIface])) ∧ IsB T B b (l ++ m) w' ∧ Below B w w' ∧ Lib.OthersKept 5 (some b) w w' := by
 refine (bwrite_cells hT B b (Lib.byteCells l) (bs m) w h (by rw [Lib.byteCells_length, bs_size]; exact hlen) hBw).mono ?_
 rintro e w' ⟨rfl, h1, h2, h3⟩
 refine ⟨by rw [bs_size], .inr ?_, h2, h3⟩
 rw [Lib.byteCells_append]
 exact h1
theorem nonascii_two (B : Nat) (v : Value) (n : Nat) (xs : List Value) (r : Int) (h0 : 128 ≤ r) (h1 : r ≤ 2047) (w : World) (hown : w.ownsRowF B 5 1 v n xs) (hlen : n + 4 ≤ 140737488355328) (hBw : B ≤ w.heap.size) :
  Calls pG 251 #[v, .int .i32 r] w fun e w' => ∃ v', e = EE v' ∧ w'.ownsRowF B 5 1 v' (n + 2) (xs ++ [.int .u8 (192 + r / 64), .int .u8 (128 + r % 64)]) ∧ ∃ o, (w.alloc o).grownBy w' v.ownBlock := by
 obtain ⟨i0, hi, hz0, hz1, hz2⟩ := info_parts u8info
 go_enter Tryz.func251, Tryz.ntmps251
 go_wp2_with (at_builtin; refine wpList_append_ownF _ rfl _ _ 128 rfl B 5 i0 (.int .u8 0) 1 1 Tryz.underlying128 hi hz0 hz1 hz2 rfl (by decide) _ _ _ rfl (hown.alloc _) ⟨w.heap.size, 0, none⟩ 2 2 [.int .u8 (192 + r / 64), .int .u8 (128 + r % 64)] rfl rfl ?c1 ?c2 ?c3 ?c4 ?c5 ?_)
 all_goals first
  | (intro v' w2 hown' hgrow _; go_wp2; go_ret; exact ⟨_, rfl, hown', _, hgrow⟩)
  | (unfold maxLen; omega)
  | omega
  | (simp; omega)
  | (intro u hu; simp at hu; rcases hu with rfl | rfl <;> rfl)
  | (intro j u hj
     match j, hj with
     | 0, hj => simp at hj; subst hj; simp [Addr.add]
     | 1, hj => simp at hj; subst hj; simp [Addr.add]
     | (j + 2), hj => simp at hj)
theorem nonascii_three_lo (B : Nat) (v : Value) (n : Nat) (xs : List Value) (r : Int) (h0 : 2048 ≤ r) (h1 : r < 55296) (w : World) (hown : w.ownsRowF B 5 1 v n xs) (hlen : n + 4 ≤ 140737488355328) (hBw : B ≤ w.heap.size) :
  Calls pG 251 #[v, .int .i32 r] w fun e w' => ∃ v', e = EE v' ∧ w'.ownsRowF B 5 1 v' (n + 3) (xs ++ [.int .u8 (224 + r / 4096), .int .u8 (128 + r / 64 % 64), .int .u8 (128 + r % 64)]) ∧ ∃ o, (w.alloc o).grownBy w' v.ownBlock := by
 obtain ⟨i0, hi, hz0, hz1, hz2⟩ := info_parts u8info
 go_enter Tryz.func251, Tryz.ntmps251
 go_wp2_with (at_builtin; refine wpList_append_ownF _ rfl _ _ 128 rfl B 5 i0 (.int .u8 0) 1 1 Tryz.underlying128 hi hz0 hz1 hz2 rfl (by decide) _ _ _ rfl (hown.alloc _) ⟨w.heap.size, 0, none⟩ 3 3 [.int .u8 (224 + r / 4096), .int .u8 (128 + r / 64 % 64), .int .u8 (128 + r % 64)] rfl rfl ?c1 ?c2 ?c3 ?c4 ?c5 ?_)
 all_goals first
  | (intro v' w2 hown' hgrow _; go_wp2; go_ret; exact ⟨_, rfl, hown', _, hgrow⟩)
  | (unfold maxLen; omega)
  | omega
  | (simp; omega)
  | (intro u hu; simp at hu; rcases hu with rfl | rfl | rfl <;> rfl)
  | (intro j u hj
     match j, hj with
     | 0, hj => simp at hj; subst hj; simp [Addr.add]
     | 1, hj => simp at hj; subst hj; simp [Addr.add]
     | 2, hj => simp at hj; subst hj; simp [Addr.add]
     | (j + 3), hj => simp at hj)
theorem nonascii_three_hi (B : Nat) (v : Value) (n : Nat) (xs : List Value) (r : Int) (h0 : 57343 < r) (h1 : r ≤ 65535) (w : World) (hown : w.ownsRowF B 5 1 v n xs) (hlen : n + 4 ≤ 140737488355328) (hBw : B ≤ w.heap.size) :
  Calls pG 251 #[v, .int .i32 r] w fun e w' => ∃ v', e = EE v' ∧ w'.ownsRowF B 5 1 v' (n + 3) (xs ++ [.int .u8 (224 + r / 4096), .int .u8 (128 + r / 64 % 64), .int .u8 (128 + r % 64)]) ∧ ∃ o, (w.alloc o).grownBy w' v.ownBlock := by
 obtain ⟨i0, hi, hz0, hz1, hz2⟩ := info_parts u8info
 go_enter Tryz.func251, Tryz.ntmps251
 go_wp2_with (at_builtin; refine wpList_append_ownF _ rfl _ _ 128 rfl B 5 i0 (.int .u8 0) 1 1 Tryz.underlying128 hi hz0 hz1 hz2 rfl (by decide) _ _ _ rfl (hown.alloc _) ⟨w.heap.size, 0, none⟩ 3 3 [.int .u8 (224 + r / 4096), .int .u8 (128 + r / 64 % 64), .int .u8 (128 + r % 64)] rfl rfl ?c1 ?c2 ?c3 ?c4 ?c5 ?_)
 all_goals first
  | (intro v' w2 hown' hgrow _; go_wp2; go_ret; exact ⟨_, rfl, hown', _, hgrow⟩)
  | (unfold maxLen; omega)
  | omega
  | (simp; omega)
  | (intro u hu; simp at hu; rcases hu with rfl | rfl | rfl <;> rfl)
  | (intro j u hj
     match j, hj with
     | 0, hj => simp at hj; subst hj; simp [Addr.add]
     | 1, hj => simp at hj; subst hj; simp [Addr.add]
     | 2, hj => simp at hj; subst hj; simp [Addr.add]
     | (j + 3), hj => simp at hj)
theorem nonascii_four (B : Nat) (v : Value) (n : Nat) (xs : List Value) (r : Int) (h0 : 65536 ≤ r) (h1 : r ≤ 1114111) (w : World) (hown : w.ownsRowF B 5 1 v n xs) (hlen : n + 4 ≤ 140737488355328) (hBw : B ≤ w.heap.size) :
  Calls pG 251 #[v, .int .i32 r] w fun e w' => ∃ v', e = EE v' ∧ w'.ownsRowF B 5 1 v' (n + 4) (xs ++ [.int .u8 (240 + r / 262144), .int .u8 (128 + r / 4096 % 64), .int .u8 (128 + r / 64 % 64), .int .u8 (128 + r % 64)]) ∧ ∃ o, (w.alloc o).grownBy w' v.ownBlock := by
 obtain ⟨i0, hi, hz0, hz1, hz2⟩ := info_parts u8info
 go_enter Tryz.func251, Tryz.ntmps251
 go_wp2_with (at_builtin; refine wpList_append_ownF _ rfl _ _ 128 rfl B 5 i0 (.int .u8 0) 1 1 Tryz.underlying128 hi hz0 hz1 hz2 rfl (by decide) _ _ _ rfl (hown.alloc _) ⟨w.heap.size, 0, none⟩ 4 4 [.int .u8 (240 + r / 262144), .int .u8 (128 + r / 4096 % 64), .int .u8 (128 + r / 64 % 64), .int .u8 (128 + r % 64)] rfl rfl ?c1 ?c2 ?c3 ?c4 ?c5 ?_)
 all_goals first
  | (intro v' w2 hown' hgrow _; go_wp2; go_ret; exact ⟨_, rfl, hown', _, hgrow⟩)
  | (unfold maxLen; omega)
  | omega
  | (simp; omega)
  | (intro u hu; simp at hu; rcases hu with rfl | rfl | rfl | rfl <;> rfl)
  | (intro j u hj
     match j, hj with
     | 0, hj => simp at hj; subst hj; simp [Addr.add]
     | 1, hj => simp at hj; subst hj; simp [Addr.add]
     | 2, hj => simp at hj; subst hj; simp [Addr.add]
     | 3, hj => simp at hj; subst hj; simp [Addr.add]
     | (j + 4), hj => simp at hj)
def isR (r : Int) : Prop := (0 ≤ r ∧ r < 55296) ∨ (57343 < r ∧ r ≤ 1114111)
theorem nonascii_any (B : Nat) (v : Value) (n : Nat) (xs : List Value) (r : Int) (hr : isR r) (hna : 128 ≤ r) (w : World) (hown : w.ownsRowF B 5 1 v n xs) (hlen : n + 4 ≤ 140737488355328) (hBw : B ≤ w.heap.size) :
  Calls pG 251 #[v, .int .i32 r] w fun e w' => ∃ v', e = EE v' ∧ w'.ownsRowF B 5 1 v' (n + (Lib.runeCells r).length) (xs ++ Lib.runeCells r) ∧ ∃ o, (w.alloc o).grownBy w' v.ownBlock := by
 unfold isR at hr
 by_cases c1 : r ≤ 2047
 ·rw [show Lib.runeCells r = [.int .u8 (192 + r / 64), .int .u8 (128 + r % 64)] by simp [Lib.runeCells, Lib.encodeRuneZ_two (by omega) c1]]
  exact nonascii_two B v n xs r (by omega) c1 w hown hlen hBw
 by_cases c2 : r < 55296
 ·rw [show Lib.runeCells r = [.int .u8 (224 + r / 4096), .int .u8 (128 + r / 64 % 64), .int .u8 (128 + r % 64)] by simp [Lib.runeCells, Lib.encodeRuneZ_three (Or.inl ⟨by omega, c2⟩)]]
  exact nonascii_three_lo B v n xs r (by omega) c2 w hown hlen hBw
 by_cases c4 : r ≤ 65535
 ·rw [show Lib.runeCells r = [.int .u8 (224 + r / 4096), .int .u8 (128 + r / 64 % 64), .int .u8 (128 + r % 64)] by simp [Lib.runeCells, Lib.encodeRuneZ_three (Or.inr ⟨by omega, c4⟩)]]
  exact nonascii_three_hi B v n xs r (by omega) c4 w hown hlen hBw
 ·rw [show Lib.runeCells r = [.int .u8 (240 + r / 262144), .int .u8 (128 + r / 4096 % 64), .int .u8 (128 + r / 64 % 64), .int .u8 (128 + r % 64)] by simp [Lib.runeCells, Lib.encodeRuneZ_four (r := r) (by omega) (by omega)]]
  exact nonascii_four B v n xs r (by omega) (by omega) w hown hlen hBw
theorem apprune_ascii (B : Nat) (v : Value) (n : Nat) (xs : List Value) (r : Int) (h0 : 0 ≤ r) (h1 : r ≤ 127) (w : World) (hown : w.ownsRowF B 5 1 v n xs) (hlen : n + 4 ≤ 140737488355328) (hBw : B ≤ w.heap.size) :
  Calls pG 223 #[v, .int .i32 r] w fun e w' => ∃ v', e = EE v' ∧ w'.ownsRowF B 5 1 v' (n + 1) (xs ++ [.int .u8 (r)]) ∧ ∃ o, (w.alloc o).grownBy w' v.ownBlock := by
 obtain ⟨i0, hi, hz0, hz1, hz2⟩ := info_parts u8info
 go_enter Tryz.func223, Tryz.ntmps223
 go_wp2_with (at_builtin; refine wpList_append_ownF _ rfl _ _ 128 rfl B 5 i0 (.int .u8 0) 1 1 Tryz.underlying128 hi hz0 hz1 hz2 rfl (by decide) _ _ _ rfl (hown.alloc _) ⟨w.heap.size, 0, none⟩ 1 1 [.int .u8 (r)] rfl rfl ?c1 ?c2 ?c3 ?c4 ?c5 ?_)
 all_goals first
  | (intro v' w2 hown' hgrow _; go_wp2; go_ret; exact ⟨_, rfl, hown', _, hgrow⟩)
  | (unfold maxLen; omega)
  | omega
  | (simp; omega)
  | (intro u hu; simp at hu; subst hu; rfl)
  | (intro j u hj
     match j, hj with
     | 0, hj => simp at hj; subst hj; simp [Addr.add]
     | (j + 1), hj => simp at hj)
theorem nonascii_sl (B : Nat) (v : Value) (n : Nat) (xs : List Value) (r : Int) (hr : isR r) (hna : 128 ≤ r) (w : World) (hown : w.ownsRowF B 5 1 v n xs) (hlen : n + 4 ≤ 140737488355328) (hBw : B ≤ w.heap.size) :
  Calls pG 251 #[v, .int .i32 r] w fun e w' => ∃ g cap, e = EE (C (some ⟨g, 0, none⟩) (n + (Lib.runeCells r).length) cap) ∧ w'.ownsRowF B 5 1 (C (some ⟨g, 0, none⟩) (n + (Lib.runeCells r).length) cap) (n + (Lib.runeCells r).length) (xs ++ Lib.runeCells r) ∧ ∃ o, (w.alloc o).grownBy w' v.ownBlock := by
 refine (nonascii_any B v n xs r hr hna w hown hlen hBw).mono ?_
 rintro e w' ⟨v', rfl, h1, h2⟩
 have hk := Lib.runeCells_le r
 obtain ⟨g, cap, rfl⟩ : ∃ g cap, v' = C (some ⟨g, 0, none⟩) (n + (Lib.runeCells r).length) cap := by
  rcases h1.2 with ⟨_, h0⟩ | ⟨g, cap', cur, fz, hv, _⟩
  ·omega
  ·exact ⟨g, cap', hv⟩
 exact ⟨g, cap, rfl, h1, h2⟩
theorem apprune_any (B : Nat) (v : Value) (n : Nat) (xs : List Value) (r : Int) (hr : isR r) (w : World) (hown : w.ownsRowF B 5 1 v n xs) (hlen : n + 4 ≤ 140737488355328) (hBw : B ≤ w.heap.size) :
  Calls pG 223 #[v, .int .i32 r] w fun e w' => ∃ v', e = EE v' ∧ w'.ownsRowF B 5 1 v' (n + (Lib.runeCells r).length) (xs ++ Lib.runeCells r) ∧ ∃ o, (w.alloc o).grownBy w' v.ownBlock := by
 by_cases c : r ≤ 127
 ·have c0 : 0 ≤ r := by unfold isR at hr; omega
  rw [show Lib.runeCells r = [.int .u8 r] by simp [Lib.runeCells, Lib.encodeRuneZ_one c0 c]]
  exact apprune_ascii B v n xs r c0 c w hown hlen hBw
 ·have hna : 128 ≤ r := by omega
  have hr0 : -2147483648 ≤ r := by omega
  have hr1 : r ≤ 2147483647 := by unfold isR at hr; omega
  have HN := Lib.hid (nonascii_sl B v n xs r hr hna w hown hlen hBw)
  go_enter Tryz.func223, Tryz.ntmps223
  go_wp2_with (go_at_call 251; refine HN.out.mono ?_; rintro e w1 ⟨g, cap, rfl, h1, o, h2⟩)
  go_ret
  exact ⟨_, rfl, h1, o, h2⟩
theorem brune_cells {T : TypeId} (hT : BTy T) (B b : Nat) (cs : List Value) (r : Int) (hr : isR r) (w : World) (h : Lib.IsBuilderF T 5 B b cs w) (hlen : cs.length + 4 ≤ 140737488355328) (hBw : B ≤ w.heap.size) :
  Calls pG 178 #[A (some ⟨b, 0, none⟩), .int .i32 r] w fun e w' => e = EE (.tuple #[.int .i64 (Lib.runeCells r).length, .nilIface]) ∧ (Lib.BuilderAtF T 5 B b (A (some ⟨b, 0, none⟩)) (cs ++ Lib.runeCells r) w' ∧ Below B w w' ∧ Lib.OthersKept 5 (some b) w w') := by
 have hk4 := Lib.runeCells_le r
 go_enter Tryz.func178, Tryz.ntmps178
 go_wp2_with (go_at_call 221; refine (bcheck_any hT B b cs _ h).mono ?_)
 rintro e w1 ⟨rfl, h1, hb1, hk1⟩
 obtain ⟨hB, v, hbk, hown, hne⟩ := h1
 obtain ⟨ao, cap, rfl⟩ : ∃ ao cap, v = C ao cs.length cap := by
  rcases hown.2 with ⟨hv, h0⟩ | ⟨g, cap, cur, fz, hv, _⟩
  ·exact ⟨none, 0, by rw [hv, h0]⟩
  ·exact ⟨_, _, hv⟩
 have c0 : w1.cell? ⟨b, 0, none⟩ = some (A (some ⟨b, 0, none⟩)) := by rw [Lib.cell_of_heap hbk]; rfl
 have c1 : w1.cell? ⟨b, 1, none⟩ = some (C ao cs.length cap) := by rw [Lib.cell_of_heap hbk]; rfl
 go_wp2_with (go_at_call 223; refine (apprune_any B _ cs.length cs r hr _ hown hlen (by have := hb1.size; omega)).mono ?_)
 rintro e w2 ⟨v', rfl, hown', o, hgrow⟩
 have hlt : b < w1.heap.size := by
  rcases Nat.lt_or_ge b w1.heap.size with h' | h'
  ·exact h'
  ·simp [Array.getElem?_eq_none h'] at hbk
 have hb2 : w2.heap[b]? = some (.cells #[A (some ⟨b, 0, none⟩), C ao cs.length cap] T (0, 0)) := by
  rw [hgrow.block b (by simp; omega) (fun e => hne e.symm), Lib.alloc_old w1 _ b hlt]
  exact hbk
 have d0 : w2.cell? ⟨b, 0, none⟩ = some (A (some ⟨b, 0, none⟩)) := by rw [Lib.cell_of_heap hb2]; rfl
 have d1 : w2.cell? ⟨b, 1, none⟩ = some (C ao cs.length cap) := by rw [Lib.cell_of_heap hb2]; rfl
 have f1 : w2.frozen? ⟨b, 1, none⟩ = false := Lib.frozen_of_heap hb2 1
 obtain ⟨g, cap', rfl⟩ : ∃ g cap', v' = C (some ⟨g, 0, none⟩) (cs.length + (Lib.runeCells r).length) cap' := by
  rcases hown'.2 with ⟨_, h0⟩ | ⟨g, cap', cur, fz, hv, _⟩
  ·omega
  ·exact ⟨g, cap', hv⟩
 go_wp2
 go_ret2
 refine ⟨?_, ?_, ?_, ((hk1.alloc _).grown hgrow (Lib.ownsRowF_kind (hown.alloc _))).setCell ⟨b, 1, none⟩ rfl _⟩
 ·have e : ((cs.length : Int) + ((Lib.runeCells r).length : Int) - (cs.length : Int)) = ((Lib.runeCells r).length : Int) := by omega
  simp [e]
 ·exact Lib.BuilderAtF.put (T := T) (e := 5) hB hb2 (bs' := cs ++ Lib.runeCells r) (by simpa using hown') hT.ne
 ·exact ((hb1.alloc (by have := hb1.size; omega) _).grown hgrow (by have := hb1.size; simp; omega) (fun k hk => (hown.lt k hk).1)).setCell (p := ⟨b, 1, none⟩) hB _
theorem brune_any {T : TypeId} (hT : BTy T) (B b : Nat) (l : List UInt8) (r : Int) (hr : isR r) (w : World) (h : IsB T B b l w) (hlen : l.length + 4 ≤ 140737488355328) (hBw : B ≤ w.heap.size) :
  Calls pG 178 #[A (some ⟨b, 0, none⟩), .int .i32 r] w fun e w' => (∃ v, e = EE v) ∧ IsB T B b (l ++ Lib.encodeRune r) w' ∧ Below B w w' ∧ Lib.OthersKept 5 (some b) w w' := by
 refine (brune_cells hT B b (Lib.byteCells l) r hr w h (by rw [Lib.byteCells_length]; exact hlen) hBw).mono ?_
 rintro e w' ⟨rfl, h1, h2, h3⟩
 refine ⟨⟨_, rfl⟩, .inr ?_, h2, h3⟩
 rw [Lib.byteCells_append, Lib.byteCells_encodeRune]
 exact h1
theorem bstring_some {T : TypeId} (B b : Nat) (l : List UInt8) (w : World) (h : IsB T B b l w) (h0 : l ≠ []) :
  Calls pG 71 #[A (some ⟨b, 0, none⟩)] w fun e w' => e = EE (S (bs l)) ∧ Below B w w' := by
 have hco : pG.cellsOf 5 = 1 := by kernel_rfl
 obtain ⟨p, hp, hAt⟩ : ∃ p, (p = .pointer none ∨ p = A (some ⟨b, 0, none⟩)) ∧ Lib.BuilderAtF T 5 B b p (Lib.byteCells l) w := by
  rcases h with h | h
  ·exact ⟨_, .inl rfl, h⟩
  ·exact ⟨_, .inr rfl, h⟩
 obtain ⟨hB, v, hbk, hown, hne⟩ := hAt
 have hl0 : l.length ≠ 0 := by simpa using h0
 rw [Lib.byteCells_length] at hown
 obtain ⟨g, cap, cur, fz, rfl, hbg, hg, hfz, hnc, hcm, hcs, htake⟩ : ∃ g cap cur fz, v = C (some ⟨g, 0, none⟩) l.length cap ∧ B ≤ g ∧ w.heap[g]? = some (.cells cur 5 fz) ∧ fz.2 ≤ l.length * 1 ∧ l.length ≤ cap ∧ cap ≤ maxLen ∧ cur.size = cap * 1 ∧ cur.toList.take (l.length * 1) = Lib.byteCells l := by
  rcases hown.2 with ⟨_, hz⟩ | ⟨g, cap, cur, fz, hv, r⟩
  ·exact absurd hz hl0
  ·exact ⟨g, cap, cur, fz, hv, r⟩
 have c1 : w.drew.cell? ⟨b, 1, none⟩ = some (C (some ⟨g, 0, none⟩) l.length cap) := by
  have : w.drew.heap[b]? = some (.cells #[p, C (some ⟨g, 0, none⟩) l.length cap] T (0, 0)) := hbk
  rw [Lib.cell_of_heap this]; rfl
 have hSD : (Builtin.unsafeSliceData_ #[128] 187 #[C (some ⟨g, 0, none⟩) l.length cap]).run pG w.drew = .ok (A (some ⟨g, 0, none⟩)) w.drew :=
  Lib.run_unsafeSliceData_row _ _ _ _ _ _ (by omega)
 have hUS : (Builtin.unsafeString_ #[187, 3] 9 #[A (some ⟨g, 0, none⟩), .int .i64 l.length]).run pG w.drew = .ok (.string ⟨l.toArray⟩) (w.drew.freeze ⟨g, 0, none⟩ l.length) := by
  refine Lib.run_unsafeString_row w.drew 187 3 9 5 Tryz.underlying187 hco g cur.size (by have hg' : w.drew.heap[g]? = some (.cells cur 5 fz) := hg; simp [World.shape?, hg']) l h0 (by omega) (by unfold maxLen at hcm; omega) ?_
  intro j x hx
  have := hown.cells (g := g) rfl j (.int .u8 x.toNat) (by simp [Lib.byteCells, hx])
  exact this
 go_enter Tryz.func71, Tryz.ntmps71
 go_wp2
 go_region
 all_goals (go_wp2; go_ret; exact ⟨rfl, Lib.below_freeze (Below.drew (Below.refl B w)) (p := ⟨g, 0, none⟩) hbg _⟩)
theorem bstring_empty {T : TypeId} (B b : Nat) (w : World) (h : IsB T B b [] w) (hBw : B ≤ w.heap.size) :
  Calls pG 71 #[A (some ⟨b, 0, none⟩)] w fun e w' => e = EE (S (bs [])) ∧ Below B w w' := by
 have hUS := fun (W : World) (q : Option Addr) => Lib.run_unsafeString_none (P := pG) W 187 3 9 q
 obtain ⟨p, hp, hAt⟩ : ∃ p, (p = .pointer none ∨ p = A (some ⟨b, 0, none⟩)) ∧ Lib.BuilderAtF T 5 B b p (Lib.byteCells []) w := by
  rcases h with h | h
  ·exact ⟨_, .inl rfl, h⟩
  ·exact ⟨_, .inr rfl, h⟩
 obtain ⟨hB, v, hbk, hown, hne⟩ := hAt
 have hlt : b < w.heap.size := (aA.1 hbk).1
 rcases hown.2 with ⟨rfl, _⟩ | ⟨g, cap, cur, fz, rfl, hbg, hg, _, _, _, _, _⟩
 ·have c1 : w.drew.cell? ⟨b, 1, none⟩ = some (C none 0 0) := by
   have : w.drew.heap[b]? = some (.cells #[p, C none 0 0] T (0, 0)) := hbk
   rw [Lib.cell_of_heap this]; rfl
  have hSD : (Builtin.unsafeSliceData_ #[128] 187 #[C none 0 0]).run pG w.drew = .ok (.pointer none) w.drew := rfl
  go_enter Tryz.func71, Tryz.ntmps71
  go_wp2
  go_region
  all_goals (go_wp2; go_ret; exact ⟨rfl, Below.drew (Below.refl B w)⟩)
 ·by_cases hc0 : cap = 0
  ·subst hc0
   have c1 : w.drew.cell? ⟨b, 1, none⟩ = some (C (some ⟨g, 0, none⟩) 0 0) := by
    have : w.drew.heap[b]? = some (.cells #[p, C (some ⟨g, 0, none⟩) 0 0] T (0, 0)) := hbk
    rw [Lib.cell_of_heap this]; rfl
   have hSD : (Builtin.unsafeSliceData_ #[128] 187 #[C (some ⟨g, 0, none⟩) 0 0]).run pG w.drew = .ok (A (some ⟨w.drew.heap.size, 0, none⟩)) (w.drew.alloc (.view ⟨g, 0, none⟩ 5)) :=
    Lib.run_unsafeSliceData_zero w.drew _ _ 5 Tryz.underlying187 ⟨g, 0, none⟩ 0 (5, cur.size) (by have hg' : w.drew.heap[g]? = some (.cells cur 5 fz) := hg; simp [World.shape?, hg'])
   have c2 : (w.drew.alloc (.view ⟨g, 0, none⟩ 5)).cell? ⟨b, 1, none⟩ = some (C (some ⟨g, 0, none⟩) 0 0) := by
    have : (w.drew.alloc (.view ⟨g, 0, none⟩ 5)).heap[b]? = _ := (Lib.alloc_old w.drew _ b hlt).trans hbk
    rw [Lib.cell_of_heap this]; rfl
   have c3 : (w.alloc (.view ⟨g, 0, none⟩ 5)).drew.cell? ⟨b, 1, none⟩ = some (C (some ⟨g, 0, none⟩) 0 0) := c2
   have c0 : w.cell? ⟨b, 1, none⟩ = some (C (some ⟨g, 0, none⟩) 0 0) := c1
   go_enter Tryz.func71, Tryz.ntmps71
   go_wp2
   go_region
   all_goals (go_wp2; go_ret; exact ⟨rfl, (Below.drew (Below.refl B w)).alloc hBw _⟩)
  ·have c1 : w.drew.cell? ⟨b, 1, none⟩ = some (C (some ⟨g, 0, none⟩) 0 cap) := by
    have : w.drew.heap[b]? = some (.cells #[p, C (some ⟨g, 0, none⟩) 0 cap] T (0, 0)) := hbk
    rw [Lib.cell_of_heap this]; rfl
   have hSD : (Builtin.unsafeSliceData_ #[128] 187 #[C (some ⟨g, 0, none⟩) 0 cap]).run pG w.drew = .ok (A (some ⟨g, 0, none⟩)) w.drew :=
    Lib.run_unsafeSliceData_row _ _ _ _ _ _ hc0
   clear hc0
   go_enter Tryz.func71, Tryz.ntmps71
   go_wp2
   go_region
   all_goals (go_wp2; go_ret; exact ⟨rfl, Below.drew (Below.refl B w)⟩)
theorem bstring_any {T : TypeId} (B b : Nat) (l : List UInt8) (w : World) (h : IsB T B b l w) (hBw : B ≤ w.heap.size) :
  Calls pG 71 #[A (some ⟨b, 0, none⟩)] w fun e w' => e = EE (S (bs l)) ∧ Below B w w' := by
 cases l with
 | nil => exact bstring_empty B b w h hBw
 | cons x r => exact bstring_some B b (x :: r) w h (by simp)
end
section
set_option maxHeartbeats 8000000
set_option maxRecDepth 100000
open Go.RowKit
structure LibG (w : World) : Prop where
 cut : ∃ m : Int, w.cell? ⟨20, 0, none⟩ = some (.int .i64 m)
 utf : Lib.Utf8Tabs 18 19 w
 pow : Lib.TabIs pG w "internal/strconv.uint64pow10" .u64 Lib.pow10Tab
theorem tab_below {P : Program} {n : String} {k : IntKind} {zs : List Int} {w w' : World} (h : Lib.TabIs P w n k zs) (hb : Below w.heap.size w w') : Lib.TabIs P w' n k zs := by
 unfold Lib.TabIs World.var? at h ⊢
 cases hg : P.globalNamed n with
 | none => rw [hg] at h; simp at h
 | some g =>
  rw [hg] at h
  simp only [Option.bind_some] at h ⊢
  have hlt : g < w.heap.size := by
   rcases Nat.lt_or_ge g w.heap.size with h' | h'
   ·exact h'
   ·rw [Array.getElem?_eq_none h'] at h; cases h
  rw [hb.block g hlt]
  exact h
theorem LibG.below {w w' : World} (h : LibG w) (hb : Below w.heap.size w w') : LibG w' := by
 obtain ⟨m, hm⟩ := h.cut
 exact ⟨⟨m, (hb.cell (cell_lt hm)).trans hm⟩, Utf8Tabs_below h.utf hb, tab_below h.pow hb⟩
theorem name_any (l : List UInt8) (hm : l.length ≤ 1000000) (w : World) (hg : LibG w) : Calls pG 122 #[S (bs l)] w (Gives w (.bool (nameB l))) := by
 obtain ⟨m, hg⟩ := hg.cut
 have HC := Lib.hid (Tryz.strings_Cut (bs l) ⟨#[58]⟩ m w (by rw [bs_size]; omega) hg)
 rw [show (bs l).data.toList = l from by simp [bs], show (⟨#[58]⟩ : ByteArray).data.toList = [58] from rfl, lib_cut] at HC
 unfold Gives
 cases hc : cutB 58 l with
 | none =>
  rw [hc] at HC
  have HX : nameB l = partB l := by unfold nameB; rw [hc]
  rw [HX]
  clear HX hc
  have HP := Lib.hid (fun w' => part_any l (nT hm (by decide)) w')
  cases hp : partB l <;> rw [hp] at HP
  all_goals
   go_enter Tryz.func122, Tryz.ntmps122
   go_wp2_with (go_at_call 168; refine HC.out.mono ?_; rintro e w1 ⟨rfl, n, rfl⟩)
   go_wp2_with (go_at_call 169; refine (HP.out _).mono ?_; rintro e w1 ⟨rfl, rfl⟩)
   go_ret
   exact ⟨rfl, below_drewN w n⟩
 | some p =>
  obtain ⟨a, b⟩ := p
  rw [hc] at HC
  dsimp only at HC
  have hl := cutB_app hc
  have hla : a.length ≤ 1000000 ∧ b.length ≤ 1000000 := by
   have := congrArg List.length hl
   simp at this
   omega
  have HX : nameB l = (partB a && partB b) := by unfold nameB; rw [hc]
  rw [HX]
  clear hl HX hc
  have HP := Lib.hid (fun w' => part_any a (nT hla.1 (by decide)) w')
  have HQ := Lib.hid (fun w' => part_any b (nT hla.2 (by decide)) w')
  cases hp : partB a <;> rw [hp] at HP
  ·go_enter Tryz.func122, Tryz.ntmps122
   go_wp2_with (go_at_call 168; refine HC.out.mono ?_; rintro e w1 ⟨rfl, n, rfl⟩)
   go_wp2_with (go_at_call 169; refine (HP.out _).mono ?_; rintro e w1 ⟨rfl, rfl⟩)
   go_ret
   exact ⟨rfl, below_drewN w n⟩
  ·cases hq : partB b <;> rw [hq] at HQ
   all_goals
    go_enter Tryz.func122, Tryz.ntmps122
    go_wp2_with (go_at_call 168; refine HC.out.mono ?_; rintro e w1 ⟨rfl, n, rfl⟩)
    go_wp2_with (go_at_call 169; refine (HP.out _).mono ?_; clear HP; rintro e w1 ⟨rfl, rfl⟩)
    go_wp2_with (go_at_call 169; refine (HQ.out _).mono ?_; rintro e w1 ⟨rfl, rfl⟩)
    go_ret
    exact ⟨rfl, below_drewN w n⟩
end
section
set_option maxHeartbeats 8000000
set_option maxRecDepth 100000
open Go.RowKit
theorem width_pos (s : ByteArray) (pos : Nat) (h : pos < s.size) : 1 ≤ (Utf8.decode s pos).2 := by
 by_cases ha : (s[pos]'h).toNat < 128
 ·rw [decode_ascii s pos h ha]
  exact nR _
 ·exact (decode_high s pos h (by omega)).2
theorem drop_end {s : ByteArray} {pos : Nat} (h : ¬ pos < s.size) : s.data.toList.drop pos = [] := by
 rw [List.drop_eq_nil_iff]
 have : s.data.toList.length = s.size := Array.length_toList
 omega
theorem signs_any (l : List UInt8) (hm : l.length ≤ 1000000) (w : World) (hg : LibG w) : Calls pG 124 #[S (bs l)] w (Gives w (.bool (sigB l))) := by
 have HV := Lib.hid (Tryz.utf8_ValidString (bs l) w (by rw [bs_size]; omega) hg.utf)
 have hsl : (bs l).data.toList = l := by simp [bs]
 have hsz := bs_size l
 have HX : RowKit.Hid (sigB l = (Lib.validD l && runGo l.length l)) := Lib.hid (by unfold sigB Lib.validD; exact sig_run _ _)
 rw [hsl] at HV
 unfold Gives
 cases hv : Lib.validD l <;> rw [hv] at HV HX
 ·have HX2 : sigB l = false := HX.out
  clear HX hv
  rw [HX2]
  clear HX2
  go_enter Tryz.func124, Tryz.ntmps124
  go_wp2_with (go_at_call 172; refine HV.out.mono ?_; rintro e w1 ⟨rfl, hb⟩)
  go_ret
  exact ⟨rfl, hb⟩
 ·have HX2 : sigB l = runGo l.length l := HX.out.trans (by simp)
  clear HX hv
  rw [HX2]
  clear HX2
  obtain ⟨s, hs⟩ : ∃ s, bs l = s := ⟨_, rfl⟩
  have hR : runGo l.length l = runGo s.size (s.data.toList.drop 0) := by rw [← hs, hsl, hsz]; rfl
  rw [hR]
  rw [hs] at HV ⊢
  obtain ⟨R, hR2⟩ : ∃ R, runGo s.size (s.data.toList.drop 0) = R := ⟨_, rfl⟩
  rw [hR2]
  have HR := Lib.hid hR2
  clear hR hs hsl hsz hm hR2
  go_enter Tryz.func124, Tryz.ntmps124
  go_wp2_with (go_at_call 172; refine HV.out.mono ?_; rintro e w1 ⟨rfl, hb⟩)
  have HB := Lib.hid hb
  have hw1 := hb.size
  clear hb
  go_loopw [] (fun wr => ∃ pos n : Nat, wr.heap[w1.heap.size]? = some (.stringIter s pos) ∧ Below w.heap.size w wr ∧ s.size ≤ pos + n ∧ runGo n (s.data.toList.drop pos) = R) (fun wr => s.size - wr.iterPos w1.heap.size)
  case atStart =>
   refine ⟨0, s.size, World.iter_heap w1 s 0, HB.out.alloc hw1 _, by omega, HR.out⟩
  case round =>
   obtain ⟨pos, n, hit, hbw, hn, hrun⟩ := hrel
   by_cases hp : pos < s.size
   ·have hnx : ∀ ty, (Instr.next (A (some ⟨w1.heap.size, 0, none⟩)) true ty).run pG wr = _ := fun ty => Lib.run_next_any_at wr w1.heap.size s pos ty hit hp
    have hwd := width_pos s pos hp
    have hd1 := decode_le s pos
    have hit2 := Lib.iterAt_heap wr w1.heap.size s pos (pos + (Utf8.decode s pos).2) hit
    have hbw2 := Lib.below_iterAt hbw (k := w1.heap.size) hw1 s (pos + (Utf8.decode s pos).2)
    obtain ⟨f, rfl⟩ : ∃ f, n = f + 1 := ⟨n - 1, by omega⟩
    rw [run_at hp] at hrun
    have HM := Lib.hid (may_any (Utf8.decode s pos).1 (wr.iterAt w1.heap.size s (pos + (Utf8.decode s pos).2)))
    cases hmb : mayB (Utf8.decode s pos).1 <;> rw [hmb] at HM hrun
    ·rw [if_pos rfl] at hrun
     subst hrun
     go_wp2_with (go_at_call 173; refine HM.out.mono ?_; rintro e w2 ⟨rfl, rfl⟩)
     go_ret
     exact ⟨rfl, hbw2⟩
    ·rw [if_neg (by decide)] at hrun
     go_wp2_with (go_at_call 173; refine HM.out.mono ?_; rintro e w2 ⟨rfl, rfl⟩)
     go_roundw
     case rel => exact ⟨pos + (Utf8.decode s pos).2, f, hit2, hbw2, by omega, hrun⟩
     case measure =>
      simp only [World.iterPos, hit2, hit]
      omega
   ·have hnx : ∀ ty, (Instr.next (A (some ⟨w1.heap.size, 0, none⟩)) true ty).run pG wr = _ := fun ty => Lib.run_next_end_at wr w1.heap.size s pos ty hit hp
    rw [drop_end hp, run_nil] at hrun
    subst hrun
    go_wp2_with fail
    go_ret
    exact ⟨rfl, hbw⟩
end
section
set_option maxHeartbeats 8000000
set_option maxRecDepth 100000
open Go.RowKit
theorem dig_9 : Lib.decDigits 9 = [57] := by rw [Lib.decDigits]; rfl
theorem dig_10 : Lib.decDigits 10 = [49, 48] := by rw [Lib.decDigits, dif_neg (by decide), show 10 / 10 = 1 from rfl, Lib.decDigits]; rfl
theorem itoa_9 (w : World) : Calls pG 119 #[.int .i64 9] w fun e w' => e = EE (S ⟨#[57]⟩) ∧ w' = w := by
 have h := Tryz.strconv_Itoa_small 9 (by decide) w
 rw [dig_9] at h
 exact h
theorem itoa_10 (w : World) : Calls pG 119 #[.int .i64 10] w fun e w' => e = EE (S ⟨#[49, 48]⟩) ∧ w' = w := by
 have h := Tryz.strconv_Itoa_small 10 (by decide) w
 rw [dig_10] at h
 exact h
theorem escaped_any (r : Nat) (v : Bool) (w : World) : Calls pG 177 #[.int .i32 r, .bool v] w fun e w' => e = EE (.tuple #[S (bs ((escT r v).getD [])), .bool (escT r v).isSome]) ∧ w' = w := by
 have H9 := Lib.hid (itoa_9)
 have H10 := Lib.hid (itoa_10)
 have s1 := fun w => (run_str_add (P := pG) w [38, 35] [57] (by decide) : (Op.stringOp .add ⟨#[38, 35]⟩ ⟨#[57]⟩).run pG w = .ok (S ⟨#[38, 35, 57]⟩) w)
 have s2 := fun w => (run_str_add (P := pG) w [38, 35, 57] [59] (by decide) : (Op.stringOp .add ⟨#[38, 35, 57]⟩ ⟨#[59]⟩).run pG w = .ok (S ⟨#[38, 35, 57, 59]⟩) w)
 have s3 := fun w => (run_str_add (P := pG) w [38, 35] [49, 48] (by decide) : (Op.stringOp .add ⟨#[38, 35]⟩ ⟨#[49, 48]⟩).run pG w = .ok (S ⟨#[38, 35, 49, 48]⟩) w)
 have s4 := fun w => (run_str_add (P := pG) w [38, 35, 49, 48] [59] (by decide) : (Op.stringOp .add ⟨#[38, 35, 49, 48]⟩ ⟨#[59]⟩).run pG w = .ok (S ⟨#[38, 35, 49, 48, 59]⟩) w)
 by_cases h60 : r = 60
 ·subst h60
  go_enter Tryz.func177, Tryz.ntmps177
  go_wp2_with fail
  go_ret2
  exact ⟨rfl, rfl⟩
 by_cases h62 : r = 62
 ·subst h62
  go_enter Tryz.func177, Tryz.ntmps177
  go_wp2_with fail
  go_ret2
  exact ⟨rfl, rfl⟩
 by_cases h38 : r = 38
 ·subst h38
  go_enter Tryz.func177, Tryz.ntmps177
  go_wp2_with fail
  go_ret2
  exact ⟨rfl, rfl⟩
 by_cases h13 : r = 13
 ·subst h13
  go_enter Tryz.func177, Tryz.ntmps177
  go_wp2_with fail
  go_ret2
  exact ⟨rfl, rfl⟩
 have e60 : ((r : Int) == 60) = false := beq_eq_false_iff_ne.2 (by omega)
 have e62 : ((r : Int) == 62) = false := beq_eq_false_iff_ne.2 (by omega)
 have e38 : ((r : Int) == 38) = false := beq_eq_false_iff_ne.2 (by omega)
 have e13 : ((r : Int) == 13) = false := beq_eq_false_iff_ne.2 (by omega)
 cases v
 ·have HX : escT r false = none := by unfold escT; rw [if_neg h60, if_neg h62, if_neg h38, if_neg h13, if_pos rfl]
  rw [HX]
  clear HX h60 h62 h38 h13
  go_enter Tryz.func177, Tryz.ntmps177
  go_wp2_with fail
  go_ret2
  exact ⟨rfl, rfl⟩
 clear e60 e62 e38 e13
 by_cases h34 : r = 34
 ·subst h34
  go_enter Tryz.func177, Tryz.ntmps177
  go_wp2_with fail
  go_ret2
  exact ⟨rfl, rfl⟩
 by_cases h9 : r = 9
 ·subst h9
  go_enter Tryz.func177, Tryz.ntmps177
  go_wp2_with (go_at_call 119; refine (H9.out _).mono ?_; rintro e w1 ⟨rfl, rfl⟩)
  go_ret2
  exact ⟨rfl, rfl⟩
 by_cases h10 : r = 10
 ·subst h10
  go_enter Tryz.func177, Tryz.ntmps177
  go_wp2_with (go_at_call 119; refine (H10.out _).mono ?_; rintro e w1 ⟨rfl, rfl⟩)
  go_ret2
  exact ⟨rfl, rfl⟩
 have e60 : ((r : Int) == 60) = false := beq_eq_false_iff_ne.2 (by omega)
 have e62 : ((r : Int) == 62) = false := beq_eq_false_iff_ne.2 (by omega)
 have e38 : ((r : Int) == 38) = false := beq_eq_false_iff_ne.2 (by omega)
 have e13 : ((r : Int) == 13) = false := beq_eq_false_iff_ne.2 (by omega)
 have e34 : ((r : Int) == 34) = false := beq_eq_false_iff_ne.2 (by omega)
 have e9 : ((r : Int) == 9) = false := beq_eq_false_iff_ne.2 (by omega)
 have e10 : ((r : Int) == 10) = false := beq_eq_false_iff_ne.2 (by omega)
 have HX : escT r true = none := by unfold escT; rw [if_neg h60, if_neg h62, if_neg h38, if_neg h13, if_neg (by decide), if_neg h34, if_neg h9, if_neg h10]
 rw [HX]
 clear HX h60 h62 h38 h13 h34 h9 h10
 go_enter Tryz.func177, Tryz.ntmps177
 go_wp2_with fail
 go_ret2
 exact ⟨rfl, rfl⟩
end
section
set_option maxHeartbeats 8000000
set_option maxRecDepth 100000
open Go.RowKit
theorem escF_len (v : Bool) : ∀ (n : Nat) (l : List UInt8), l.length ≤ n → (escF v l).length ≤ 6 * l.length
 | 0, l, h => by
  obtain rfl : l = [] := List.length_eq_zero_iff.1 (by omega)
  simp [escF_nil]
 | n + 1, l, h => by
  by_cases h0 : l = []
  ·subst h0; simp [escF_nil]
  ·have hw := Lib.decodeL_width l
   have hl : 0 < l.length := List.length_pos_iff.2 h0
   have h6 := escOne_len v l
   have ih := escF_len v n (l.drop (Lib.decodeL l).2) (by rw [List.length_drop]; omega)
   rw [escF_step v l h0, lF]
   rw [List.length_drop] at ih
   omega
theorem IsB.below {T : TypeId} {B b : Nat} {l : List UInt8} {w w' : World} (h : IsB T B b l w) (hb : Below w.heap.size w w') : IsB T B b l w' := by
 have one : ∀ p, Lib.BuilderAtF T 5 B b p (Lib.byteCells l) w → Lib.BuilderAtF T 5 B b p (Lib.byteCells l) w' := by
  rintro p ⟨hB, v, hbk, hown, hne⟩
  refine ⟨hB, v, (hb.block b (aA.1 hbk).1).trans hbk, ⟨hown.1, ?_⟩, hne⟩
  rcases hown.2 with hn | ⟨g, cap, cur, fz, hv, hbg, hg, rest⟩
  ·exact .inl hn
  ·exact .inr ⟨g, cap, cur, fz, hv, hbg, (hb.block g (aA.1 hg).1).trans hg, rest⟩
 exact h.imp (one _) (one _)
theorem IsB.lt {T : TypeId} {B b : Nat} {l : List UInt8} {w : World} (h : IsB T B b l w) : b < w.heap.size := by
 rcases h with h | h <;> exact h.lt
theorem go_at {s : ByteArray} {pos : Nat} (h : pos < s.size) : Lib.decodeGo (s.extract pos s.size) = Utf8.decode s pos := by
 have h1 : (s.extract pos s.size).size ≠ 0 := by simp; omega
 unfold Lib.decodeGo
 rw [if_neg h1, dec_drop, dec_drop, List.drop_zero, Lib.extract_data]
 congr 1
 have : s.data.toList.length = s.size := Array.length_toList
 rw [List.take_of_length_le (by rw [List.length_drop]; omega)]
theorem and_f {b1 b2 : Bool} (h : false = (b1 && b2)) : b1 = false ∨ (b1 = true ∧ b2 = false) := by revert h; cases b1 <;> cases b2 <;> decide
theorem may_isR {r : Nat} (h : mayB r = true) : isR r := by
 unfold mayB at h
 unfold isR
 simp only [Bool.or_eq_true, Bool.and_eq_true, beq_iff_eq, decide_eq_true_eq] at h
 omega
theorem escape_any (l : List UInt8) (v : Bool) (hm : l.length ≤ 1000000) (w : World) (hg : LibG w) : Calls pG 126 #[S (bs l), .bool v] w (Gives w (S (bs (escF v l)))) := by
 have hlen := escF_len v l.length l (nR _)
 have hsl : (bs l).data.toList = l := by simp [bs]
 have hsz := bs_size l
 unfold Gives
 obtain ⟨s, hs⟩ : ∃ s, bs l = s := ⟨_, rfl⟩
 have hR : escF v l = escF v (s.data.toList.drop 0) := by rw [← hs, hsl]; rfl
 rw [hR] at hlen ⊢
 rw [hs] at hsz ⊢
 rw [← hsz] at hm hlen
 obtain ⟨R, hR2⟩ : ∃ R, escF v (s.data.toList.drop 0) = R := ⟨_, rfl⟩
 rw [hR2] at hlen ⊢
 have HR := Lib.hid hR2
 have HG := Lib.hid hg
 clear hR hs hsl hsz hR2 hg
 go_enter Tryz.func126, Tryz.ntmps126
 go_wp2
 go_loopw [] (fun wr => ∃ (pos : Nat) (acc : List UInt8), IsB 130 w.heap.size w.heap.size acc wr ∧ wr.heap[w.heap.size + 1]? = some (.stringIter s pos) ∧ Below w.heap.size w wr ∧ acc ++ escF v (s.data.toList.drop pos) = R) (fun wr => s.size - wr.iterPos (w.heap.size + 1))
 case atStart =>
  refine ⟨0, [], (Lib.IsBuilderF.of (Lib.fresh_isBuilder 130 5 w)).alloc _, ?_, ((Below.refl _ w).alloc (nR _) _).alloc (by simp) _, HR.out⟩
  have := World.iter_heap (w.alloc (.cells #[.pointer none, C none 0 0] 130)) s 0
  simpa using this
 case round =>
  obtain ⟨pos, acc, hI, hit, hbw, hacc⟩ := hrel
  have hszw : w.heap.size + 1 < wr.heap.size := (aA.1 hit).1
  by_cases hp : pos < s.size
  ·have hnx : ∀ ty, (Instr.next (A (some ⟨w.heap.size + 1, 0, none⟩)) true ty).run pG wr = _ := fun ty => Lib.run_next_any_at wr (w.heap.size + 1) s pos ty hit hp
   have hwd := width_pos s pos hp
   have hd1 := decode_le s pos
   have hI2 := hI.iterAt hit (pos + (Utf8.decode s pos).2)
   have hit2 := Lib.iterAt_heap wr (w.heap.size + 1) s pos (pos + (Utf8.decode s pos).2) hit
   have hbw2 := Lib.below_iterAt hbw (k := w.heap.size + 1) (by omega) s (pos + (Utf8.decode s pos).2)
   have hsz2 : w.heap.size + 1 < (wr.iterAt (w.heap.size + 1) s (pos + (Utf8.decode s pos).2)).heap.size := by rw [Lib.iterAt_size]; omega
   rw [esc_at hp] at hacc
   have HD := Lib.hid (Tryz.utf8_DecodeRuneInString (s.extract pos s.size) (wr.iterAt (w.heap.size + 1) s (pos + (Utf8.decode s pos).2)) (HG.out.below hbw2).utf)
   rw [go_at hp] at HD
   have hbd := bad_dec (s := s) (pos := pos)
   have hos := esc_off (v := v) (s := s) (pos := pos)
   have hoe := esc_self (v := v) (s := s) (pos := pos) hp
   have hob := fun t => esc_by (v := v) (s := s) (pos := pos) (t := t)
   have hol := escOne_len v (s.data.toList.drop pos)
   have hne := drop_ne hp
   have hE := fun w2 => escaped_any (Utf8.decode s pos).1 v w2
   have hM := fun w2 => may_any (Utf8.decode s pos).1 w2
   obtain ⟨⟨r, n⟩, hdec⟩ : ∃ d, Utf8.decode s pos = d := ⟨_, rfl⟩
   rw [hdec] at hnx hwd hd1 hI2 hit2 hbw2 hsz2 hacc HD hbd hos hoe hob hE hM
   dsimp only at hnx hwd hd1 hI2 hit2 hbw2 hsz2 hacc HD hbd hos hoe hob hE hM
   have HE := Lib.hid hE
   have HM := Lib.hid hM
   have HI2 := Lib.hid hI2
   have HIT2 := Lib.hid hit2
   have HB2 := Lib.hid hbw2
   clear hE hM hI2 hit2 hbw2 hdec hI
   obtain ⟨one, hone⟩ : ∃ one, escOne v (s.data.toList.drop pos) = one := ⟨_, rfl⟩
   rw [hone] at hacc hos hoe hob hol
   clear hone
   obtain ⟨bad, hbad⟩ : ∃ bad, badB (s.data.toList.drop pos) = bad := ⟨_, rfl⟩
   rw [hbad] at hbd hos hoe hob
   clear hbad
   have hrs : ((r : Int) == 65533) = (r == 65533) := by rw [Bool.eq_iff_iff]; simp only [beq_iff_eq]; omega
   have hns : ((n : Int) == 1) = (n == 1) := by rw [Bool.eq_iff_iff]; simp only [beq_iff_eq]; omega
   have hpz : (pos : Int) < (s.size : Int) := by omega
   have hpz2 : (pos : Int) ≤ (s.size : Int) := by omega
   have hro : ∀ w2, Below (wr.iterAt (w.heap.size + 1) s (pos + n)).heap.size (wr.iterAt (w.heap.size + 1) s (pos + n)) w2 → IsB 130 w.heap.size w.heap.size acc w2 ∧ w2.heap[w.heap.size + 1]? = some (.stringIter s (pos + n)) ∧ Below w.heap.size w w2 ∧ w.heap.size + 1 < w2.heap.size := fun w2 hb =>
    ⟨IsB.below HI2.out hb, (hb.block _ hsz2).trans HIT2.out, HB2.out.trans (hb.mono HB2.out.size), by have := hb.size; omega⟩
   have HRO := Lib.hid hro
   have HOS := Lib.hid hos
   have HOE := Lib.hid hoe
   have HOB := Lib.hid hob
   clear hro HI2 HIT2 HB2 hos hoe hob
   by_cases hbb : bad = true
   ·have h12 : (r == 65533) = true ∧ (n == 1) = true := by
     rw [hbb] at hbd
     exact (Bool.and_eq_true _ _ ▸ hbd.symm : (r == 65533) = true ∧ (n == 1) = true)
    rw [h12.1] at hrs
    rw [h12.2] at hns
    obtain rfl : one = [] := HOS.out (.inl hbb)
    clear hbd h12
    go_wp2_with (go_at_call 176; refine HD.out.mono ?_; rintro e w2 ⟨rfl, hb⟩)
    obtain ⟨h1, h2, h3, h4⟩ := HRO.out _ hb
    go_roundw
    case rel => exact ⟨pos + n, acc, h1, h2, h3, hacc⟩
    case measure =>
     simp only [World.iterPos, h2, hit]
     omega
   ·have hbf : bad = false := by cases bad with
     | true => exact absurd rfl hbb
     | false => rfl
    subst hbf
    clear hbb
    -- a sign that may not stand there, or one that may
    have fin1 : ∀ w2, Below (wr.iterAt (w.heap.size + 1) s (pos + n)).heap.size (wr.iterAt (w.heap.size + 1) s (pos + n)) w2 → mayB r = false → ∃ (pos' : Nat) (acc' : List UInt8), IsB 130 w.heap.size w.heap.size acc' w2 ∧ w2.heap[w.heap.size + 1]? = some (.stringIter s pos') ∧ Below w.heap.size w w2 ∧ acc' ++ escF v (s.data.toList.drop pos') = R := by
     intro w2 hb hm0
     obtain ⟨h1, h2, h3, h4⟩ := HRO.out _ hb
     obtain rfl : one = [] := HOS.out (.inr hm0)
     exact ⟨pos + n, acc, h1, h2, h3, hacc⟩
    have msr : ∀ W : World, W.heap[w.heap.size + 1]? = some (.stringIter s (pos + n)) → s.size - W.iterPos (w.heap.size + 1) < s.size - wr.iterPos (w.heap.size + 1) := by
     intro W h2
     simp only [World.iterPos, h2, hit]
     omega
    have F1 := Lib.hid fin1
    have MS := Lib.hid msr
    clear fin1 msr
    obtain ⟨b1, hb1⟩ : ∃ b1, (r == 65533) = b1 := ⟨_, rfl⟩
    obtain ⟨b2, hb2⟩ : ∃ b2, (n == 1) = b2 := ⟨_, rfl⟩
    rw [hb1] at hrs hbd
    rw [hb2] at hns hbd
    clear hb1 hb2
    have h12 := and_f hbd
    clear hbd
    cases hmb : mayB r with
    | false =>
     rw [hmb] at HM
     rcases h12 with rfl | ⟨rfl, rfl⟩
     all_goals
      go_wp2_with (first | (go_at_call 176; refine HD.out.mono ?_; rintro e w2 ⟨rfl, hb⟩) | (go_at_call 173; refine (HM.out _).mono ?_; rintro e w3 ⟨rfl, rfl⟩))
      go_roundw
      case rel => exact F1.out _ hb hmb
      case measure => exact MS.out _ (HRO.out _ hb).2.1
    | true =>
     rw [hmb] at HM
     cases hes : escT r v with
     | some t =>
      rw [hes] at HE
      obtain rfl : one = t := HOB.out t rfl hmb hes
      have HW := Lib.hid (fun w2 (h : IsB 130 w.heap.size w.heap.size acc w2) (hs2 : w.heap.size + 1 < w2.heap.size) => bwrite_any bty_own w.heap.size w.heap.size acc one w2 h (by have := congrArg List.length hacc; rw [lF, lF] at this; omega) (by omega))
      rcases h12 with rfl | ⟨rfl, rfl⟩
      all_goals
       go_wp2_with (first | (go_at_call 176; refine HD.out.mono ?_; rintro e w2 ⟨rfl, hb⟩) | (go_at_call 173; refine (HM.out _).mono ?_; rintro e w3 ⟨rfl, rfl⟩) | (go_at_call 177; refine (HE.out _).mono ?_; rintro e w3 ⟨rfl, rfl⟩))
       obtain ⟨h1, h2, h3, h4⟩ := HRO.out _ hb
       have HW1 := Lib.hid (HW.out _ h1 h4)
       clear h1
       go_wp2_with (go_at_call 175; refine HW1.out.mono ?_; rintro e w4 ⟨rfl, g1, g2, g3⟩)
       have h2' := g3.iter h2 (by omega)
       go_roundw
       case rel => exact ⟨pos + n, acc ++ one, g1, h2', h3.trans g2, by rw [List.append_assoc]; exact hacc⟩
       case measure => exact MS.out _ h2'
     | none =>
      rw [hes] at HE
      obtain rfl : one = Lib.encodeRune (r : Int) := HOE.out rfl hmb hes
      have HW := Lib.hid (fun w2 (h : IsB 130 w.heap.size w.heap.size acc w2) (hs2 : w.heap.size + 1 < w2.heap.size) => brune_any bty_own w.heap.size w.heap.size acc (r : Int) (may_isR hmb) w2 h (by have := congrArg List.length hacc; rw [lF, lF] at this; omega) (by omega))
      rcases h12 with rfl | ⟨rfl, rfl⟩
      all_goals
       go_wp2_with (first | (go_at_call 176; refine HD.out.mono ?_; rintro e w2 ⟨rfl, hb⟩) | (go_at_call 173; refine (HM.out _).mono ?_; rintro e w3 ⟨rfl, rfl⟩) | (go_at_call 177; refine (HE.out _).mono ?_; rintro e w3 ⟨rfl, rfl⟩))
       obtain ⟨h1, h2, h3, h4⟩ := HRO.out _ hb
       have HW1 := Lib.hid (HW.out _ h1 h4)
       clear h1
       go_wp2_with (go_at_call 178; refine HW1.out.mono ?_; rintro e w4 ⟨⟨rv, rfl⟩, g1, g2, g3⟩)
       have h2' := g3.iter h2 (by omega)
       go_roundw
       case rel => exact ⟨pos + n, acc ++ Lib.encodeRune (r : Int), g1, h2', h3.trans g2, by rw [List.append_assoc]; exact hacc⟩
       case measure => exact MS.out _ h2'
  ·have hnx : ∀ ty, (Instr.next (A (some ⟨w.heap.size + 1, 0, none⟩)) true ty).run pG wr = _ := fun ty => Lib.run_next_end_at wr (w.heap.size + 1) s pos ty hit hp
   rw [drop_end hp, escF_nil, List.append_nil] at hacc
   subst hacc
   have HS := Lib.hid (bstring_any w.heap.size w.heap.size acc wr hI (by omega))
   clear hI
   go_wp2_with (go_at_call 71; refine HS.out.mono ?_; rintro e W1 ⟨rfl, b1⟩)
   go_ret
   exact ⟨rfl, hbw.trans b1⟩
end
end Go.Proofs.YthboiahdheehkaaGreatDoor
