/- RowZ -/
import Derived.Test.YtkghpmpmcafhkaaGreatDoorPD
import Derived.Maps.AppendAt
import Derived.Test.YtkghpmpmcafhkaaGreatDoorRD
import Derived.Test.YtkghpmpmcafhkaaGreatDoorPJ
namespace Go.Proofs.YtkghpmpmcafhkaaGreatDoor
set_option maxHeartbeats 4000000
set_option maxRecDepth 20000
open Go.RowKit
structure RowTy (P : Program) (ts e : TypeId) (size bytes : Nat) : Prop where
  und : P.underlying ts = some (.slice e)
  inf : ∃ i z, P.info? e = some i ∧ i.zero = some z ∧ i.size = size ∧ i.bytes = bytes ∧ z.cells.size = size
  pos : 0 < size
def RowZ (e : TypeId) (size B : Nat) (w : World) (v : Value) (n : Nat) (xs : List Value) : Prop :=
  ∃ g cap cur, v = .slice (some ⟨g, 0, none⟩) n cap ∧ B ≤ g ∧ Blk w g e cur ∧ n ≤ cap ∧ cap ≤ maxLen ∧ cur.size = cap * size ∧ cur.toList.take (n * size) = xs ∧ xs.length = n * size ∧ (n = 0 → cap = 0)
def Rz (e : TypeId) (size B : Nat) (w w' : World) : Prop := Below B w w' ∧ w.heap.size ≤ w'.heap.size ∧ ∀ g cs, Blk w g e cs → cs.size ≤ size → Blk w' g e cs
section
variable {P : Program} {ts e : TypeId} {size bytes B n : Nat} {w w' : World} {v : Value} {xs : List Value}
theorem Rz.of_below (h : Below w.heap.size w w') (hB : B ≤ w.heap.size) : Rz e size B w w' := ⟨h.mono hB, h.size, fun _ _ hb _ => hb.below h hb.lt⟩
theorem RowZ.own (h : RowZ e size B w v n xs) : w.ownsRow B e size v n xs := by
  obtain ⟨g, cap, cur, rfl, h1, h2, h3, h4, h5, h6, h7, _⟩ := h
  exact ⟨h7, .inr ⟨g, cap, cur, rfl, h1, h2, h3, h4, h5, h6⟩⟩
theorem RowZ.of_own (h : w.ownsRow B e size v n xs) (hn : 0 < n) : RowZ e size B w v n xs := by
  rcases h.2 with ⟨_, h0⟩ | ⟨g, cap, cur, rfl, h1, h2, h3, h4, h5, h6⟩
  · omega
  · exact ⟨g, cap, cur, rfl, h1, h2, h3, h4, h5, h6, h.1, fun h0 => by omega⟩
theorem RowZ.below (h : RowZ e size B w v n xs) (k : Below w.heap.size w w') : RowZ e size B w' v n xs := by
  obtain ⟨g, cap, cur, h1, h2, h3, r⟩ := h
  exact ⟨g, cap, cur, h1, h2, h3.below k h3.lt, r⟩
theorem RowZ.rz (h : RowZ e size B w v 0 xs) (k : Rz e size B w w') : RowZ e size B w' v 0 xs := by
  obtain ⟨g, cap, cur, h1, h2, h3, h4, h5, h6, h7, h8, h9⟩ := h
  have h0 := h9 rfl
  exact ⟨g, cap, cur, h1, h2, k.2.2 g cur h3 (by rw [h6, h0]; omega), h4, h5, h6, h7, h8, h9⟩
theorem RowZ.val (h : RowZ e size B w v n xs) : ∃ g c, v = .slice (some ⟨g, 0, none⟩) n c := by
  obtain ⟨g, cap, _, h1, _⟩ := h
  exact ⟨g, cap, h1⟩
theorem RowZ.new (e : TypeId) (size B : Nat) (w : World) (hB : B ≤ w.heap.size) : RowZ e size B (w.alloc (.cells #[] e)) (.slice (some ⟨w.heap.size, 0, none⟩) 0 0) 0 [] :=
  ⟨w.heap.size, 0, #[], rfl, hB, Blk.new _ _ _, Nat.le_refl _, by unfold maxLen; omega, by simp, by simp, by simp, fun _ => rfl⟩
theorem run_appZ (T : RowTy P ts e size bytes) (ty : TypeId) (hz : RowZ e size B w v n xs)
    (p : Option Addr) (m c : Nat) (news : List Value) (hl : news.length = m * size) (hr : Rd w p news) (h1 : ∀ u ∈ news, u.oneCell' = true) (h63 : n + m ≤ maxLen) (hby : (n + m) * bytes ≤ 140737488355328) (hB : B ≤ w.heap.size) :
    ∃ v' w', (Builtin.append_ #[ts, ts] ty #[v, .slice p m c]).run P w = .ok v' w' ∧ RowZ e size B w' v' (n + m) (xs ++ news) ∧ Rz e size B w w' := by
  obtain ⟨i0, z0, hi0, hz0, hz1, hz2, hz3⟩ := T.inf
  have hpos := T.pos
  by_cases hm : m = 0
  · subst hm
    have hn : news = [] := List.length_eq_zero_iff.1 (by omega)
    subst hn
    obtain ⟨v', w', hrun, h2, h3, _⟩ := run_appAt (P := P) B ts ty e i0 z0 size bytes T.und hi0 hz0 hz1 hz2 hz3 hpos v n xs hz.own p 0 c [] (by simp) (.inl rfl) (by simp) h63 hby hB
    obtain ⟨g, cap, cur, rfl, g1, g2, g3, g4, g5, g6, g7, g8⟩ := hz
    have hrun2 : (Builtin.append_ #[ts, ts] ty #[.slice (some ⟨g, 0, none⟩) n cap, .slice p 0 c]).run P w = .ok (.slice (some ⟨g, 0, none⟩) n cap) w := by
      cases p with
      | none => simp [Builtin.append_, run_underlying T.und, sizeOf, typeInfo, hi0, Builtin.lenOf, Builtin.firstCells, g3, storeCells]
      | some a =>
        have h := run_append_room_cells (P := P) w ts ty e i0 T.und hi0 g 0 n cap a 0 c [] (by simp) (by simp) (by simp) (by omega) (by simp) (by simp)
        exact h
    rw [hrun2] at hrun
    simp only [Result.ok.injEq] at hrun
    obtain ⟨rfl, rfl⟩ := hrun
    exact ⟨_, _, hrun2, ⟨g, cap, cur, rfl, g1, g2, g3, g4, g5, by simpa using g6, by simpa using g7, g8⟩, Rz.of_below (Below.refl _ _) hB⟩
  · have hms : 0 < m * size := Nat.mul_pos (by omega) hpos
    obtain ⟨b, off, rfl, hcell⟩ := hr.has (by rintro rfl; simp at hl; omega)
    obtain ⟨g, cap, cur, rfl, g1, g2, g3, g4, g5, g6, g7, g8⟩ := id hz
    by_cases hroom : n + m ≤ cap
    · obtain ⟨v', w', hrun, h2, h3, _⟩ := run_appAt (P := P) B ts ty e i0 z0 size bytes T.und hi0 hz0 hz1 hz2 hz3 hpos _ n xs hz.own _ m c news hl (.inr ⟨b, off, rfl, hcell⟩) h1 h63 hby hB
      refine ⟨v', w', hrun, RowZ.of_own h2 (by omega), (Below.refl _ _ : Below B w w).grown h3 hB (fun k hk => by cases hk; exact g1), h3.size, fun k cs hk hs => ?_⟩
      refine (h3.block k hk.lt fun e => ?_).trans hk
      cases e
      have : cs = cur := by
        have h9 := g2.symm.trans hk
        simpa using h9.symm
      subst this
      have h2 : 2 ≤ cap := by
        have : n ≠ 0 := fun h => by have := g8 h; omega
        omega
      have h3 : 2 * size ≤ cap * size := Nat.mul_le_mul_right _ h2
      omega
    · obtain ⟨v', w', hrun, h2, h3⟩ := run_append_arg_grows (P := P) w ts ty e i0 z0 size bytes T.und hi0 hz0 hz1 hz2 hz3 hpos ⟨g, 0, none⟩ n cap xs g7 (fun j u hu => by
        rw [cell_add, Nat.zero_add, g2.cell, ← Array.getElem?_toList]
        rw [← g6, List.getElem?_take] at hu
        split at hu
        · exact hu
        · cases hu) ⟨b, off, none⟩ m c news hl (fun j u hu => by rw [cell_add]; exact hcell j u hu) (by omega) h63 hby
      have hbl : Below w.heap.size w w' := ⟨h3.os, h3.tape, h3.output, h3.size, fun k hk => h3.block k hk (by simp)⟩
      exact ⟨v', w', hrun, RowZ.of_own (owns_lower h2 hB) (by omega), Rz.of_below hbl hB⟩
theorem gives_appZ {o : Oper} {a : Act} {Q : Value → World → Prop} (T : RowTy P ts e size bytes) (s x : Operand)
    (ho : o.op = .call { callee := .builtin .append, args := #[s, x], argTypes := #[ts, ts] })
    (hs : a.eval s = v) (hz : RowZ e size B w v n xs) (p : Option Addr) (m c : Nat) (news : List Value) (hx : a.eval x = .slice p m c) (hl : news.length = m * size) (hr : Rd w p news) (h1 : ∀ u ∈ news, u.oneCell' = true)
    (h63 : n + m ≤ maxLen) (hby : (n + m) * bytes ≤ 140737488355328) (hB : B ≤ w.heap.size) (h : ∀ v' w', RowZ e size B w' v' (n + m) (xs ++ news) → Rz e size B w w' → Q v' w') : gives P o a.eval w Q := by
  obtain ⟨v', w', hrun, h2, h3⟩ := run_appZ (w := w) T o.type hz p m c news hl hr h1 h63 hby hB
  have hr : (execOp a.eval o).run P w = .ok (.value v') w' := by
    unfold execOp
    simp only [ho, resolve, invoke, builtin, Sem.run_bind, Sem.run_pure, Result.andThen_ok, List.map_toArray, List.map_cons, List.map_nil, hs, hx, hrun]
  unfold gives
  rw [hr]
  exact h v' w' h2 h3
theorem RowZ.rd (h : RowZ e size B w v n xs) : ∃ g c, v = .slice (some ⟨g, 0, none⟩) n c ∧ B ≤ g ∧ n ≤ c ∧ c ≤ maxLen ∧ Rd w (some ⟨g, 0, none⟩) xs := by
  obtain ⟨p, c, he, h1, h2, h3⟩ := owns_rd h.own
  obtain ⟨g, cap, cur, hv, hB, _⟩ := h
  rw [hv] at he
  cases he
  exact ⟨g, _, hv, hB, h1, h2, h3⟩
end
theorem grown_blk2 {w w' : World} {q : Option Nat} {g : Nat} {t : TypeId} {cs : Array Value} (hg : w.grownBy w' q) (hb : Blk w g t cs) (hq : q ≠ some g) : Blk w' g t cs := (hg.block g hb.lt (Ne.symm hq)).trans hb
structure Kx (g : Nat) (a b : World) : Prop where
  os : b.os = a.os
  tape : b.tape = a.tape
  output : b.output = a.output
  size : a.heap.size ≤ b.heap.size
  block : ∀ k, k < a.heap.size → k ≠ g → b.heap[k]? = a.heap[k]?
theorem Kx.refl (g : Nat) (a : World) : Kx g a a := ⟨rfl, rfl, rfl, Nat.le_refl _, fun _ _ _ => rfl⟩
section
variable {g : Nat} {a b c : World}
theorem Kx.belowK (h : Kx g a b) (k : Below b.heap.size b c) : Kx g a c :=
  ⟨k.os.trans h.os, k.tape.trans h.tape, k.output.trans h.output, Nat.le_trans h.size k.size, fun i hi hn => (k.block i (Nat.lt_of_lt_of_le hi h.size)).trans (h.block i hi hn)⟩
theorem Kx.onlyK (h : Kx g a b) (k : Only g b c) : Kx g a c :=
  ⟨k.os.trans h.os, k.tape.trans h.tape, k.output.trans h.output, by rw [k.size]; exact h.size, fun i hi hn => (k.block i hn).trans (h.block i hi hn)⟩
theorem Kx.onlyN {g' : Nat} (h : Kx g a b) (k : Only g' b c) (hg : a.heap.size ≤ g') : Kx g a c :=
  ⟨k.os.trans h.os, k.tape.trans h.tape, k.output.trans h.output, by rw [k.size]; exact h.size, fun i hi hn => (k.block i (by omega)).trans (h.block i hi hn)⟩
theorem Kx.grownN {q : Option Nat} (h : Kx g a b) (k : b.grownBy c q) (hq : ∀ i, q = some i → a.heap.size ≤ i) : Kx g a c :=
  ⟨k.os.trans h.os, k.tape.trans h.tape, k.output.trans h.output, Nat.le_trans h.size k.size, fun i hi hn => (k.block i (Nat.lt_of_lt_of_le hi h.size) (fun e => by have := hq i e.symm; omega)).trans (h.block i hi hn)⟩
theorem Kx.under {B : Nat} {w : World} (h : Kx g a b) (k : Below B w a) (hB : B ≤ g) (hB2 : B ≤ a.heap.size) : Below B w b :=
  ⟨h.os.trans k.os, h.tape.trans k.tape, h.output.trans k.output, Nat.le_trans k.size h.size, fun i hi => (h.block i (by omega) (by omega)).trans (k.block i hi)⟩
theorem Kx.blkK {g' : Nat} {t : TypeId} {cs : Array Value} (h : Kx g a b) (hb : Blk a g' t cs) (hn : g' ≠ g) : Blk b g' t cs := (h.block g' hb.lt hn).trans hb
theorem Kx.rdK {p : Option Addr} {xs : List Value} (h : Kx g a b) (hr : Rd a p xs) (hp : ∀ x, p = some x → x.block < a.heap.size ∧ x.block ≠ g) : Rd b p xs :=
  hr.keepP (P := fun k => k < a.heap.size ∧ k ≠ g) hp fun x _ hx hc => (World.cell?_of_block (h.block x.block hx.1 hx.2)).trans hc
end
def PZ (e : TypeId) (size B n : Nat) (xs : List Value) : Part := ⟨fun v => ∃ g c, v = .slice (some ⟨g, 0, none⟩) n c, fun w v => RowZ e size B w v n xs⟩
end Go.Proofs.YtkghpmpmcafhkaaGreatDoor
namespace Go.Proofs.YtkghpmpmcafhkaaGreatDoor
set_option maxHeartbeats 4000000
set_option maxRecDepth 20000
open Go.RowKit
attribute [local go_sem] bs_toList
theorem ext_take (l : List UInt8) (k : Nat) : (bs l).extract 0 k = bs (l.take k) := by
  rw [bs_extract, List.drop_zero, Nat.sub_zero]
theorem rsplit_any (l : List UInt8) (hm : l.length ≤ 1099511627776) (w : World) : Calls Tryz.prog 82 #[.string (bs l)] w (Gives w (.tuple #[.string (bs (splitF l).1), .string (bs (splitF l).2)])) := by
  have hsz := bs_size l
  obtain ⟨R, hR⟩ : ∃ R, splitF l = R := ⟨_, rfl⟩
  unfold Gives
  rw [hR]
  have HR := Lib.hid hR
  clear hR
  go_enter Tryz.func82, Tryz.ntmps82
  go_wp2_with fail
  go_loop [4] (fun i => ∃ k : Nat, k ≤ l.length ∧ i = .int .i64 k ∧ ∀ c ∈ l.take k, c ≠ 58) (fun i => l.length - (intOf i).toNat)
  case atStart => exact ⟨0, by omega, rfl, by simp⟩
  case round =>
    obtain ⟨k, hk, rfl, hno⟩ := hrel
    by_cases hlt : k < l.length
    · have hki : (k : Int) < ((bs l).size : Int) := by rw [hsz]; omega
      have hki2 : (k : Int) < (l.length : Int) := by omega
      have hlk : (bs l)[k]'(by rw [hsz]; exact hlt) = l[k] := rfl
      by_cases h58 : l[k] = 58
      · have hz : ((l[k].toNat : Int) == 58) = true := by rw [h58]; rfl
        have hl : l = l.take k ++ 58 :: l.drop (k + 1) := by
          conv => lhs; rw [← List.take_append_drop k l, List.drop_eq_getElem_cons hlt, h58]
        have hsp : splitF l = (l.take k, l.drop (k + 1)) := by
          unfold splitF
          conv => lhs; rw [hl]
          rw [cut_at _ hno]
        obtain rfl : R = (l.take k, l.drop (k + 1)) := HR.out.symm.trans hsp
        have e1 := ext_take l k
        have e2 := ext_drop l (k + 1)
        have hk1 : wrap64 ((k : Int) + 1) = (k : Int) + 1 := by unfold wrap64; omega
        have hki3 : (k : Int) ≤ (l.length : Int) := by omega
        have hki4 : (k : Int) + 1 ≤ (l.length : Int) := by omega
        clear HR hsp hl hno
        go_wp2_with fail
        refine wp_phi (fun w' => Below w.heap.size w w') [] [] (by kernel_rfl) (by kernel_rfl) ?_ ?_ ((Below.refl _ w)).drew ?_
        · rintro w1' w2' hIB hb
          exact hIB.trans (hb.mono hIB.size)
        · intro p hp; cases hp
        repeat (first | (refine phi_skipK rfl (fun K hK => ?_); simp only [Act.put, List.setIfInBounds_toArray, List.set_cons_succ, List.set_cons_zero, List.cons_append, List.nil_append]; apply hK; clear hK K) | (refine phi_pureK rfl rfl (fun K hK => ?_); apply Exists.intro; constructor; (focus (rintro w' hIB; skip; first | (go_simp; done) | (go_simp; (try go_bits); (try go_simp); rfl) | go_simp)); simp only [Act.put, List.setIfInBounds_toArray, List.set_cons_succ, List.set_cons_zero, List.cons_append, List.nil_append]; apply hK; clear hK K))
        refine phi_done ?_
        rintro w2 hb2 _
        refine wpList_nil ?_
        go_wp2_with fail
        go_ret2
        exact ⟨rfl, hb2⟩
      · have hz : ((l[k].toNat : Int) == 58) = false := by
          rw [beq_eq_false_iff_ne]
          intro h
          exact h58 (UInt8.toNat_inj.1 (by have : (58 : UInt8).toNat = 58 := rfl; omega))
        go_wp2_with fail
        go_round
        case rel =>
          refine ⟨k + 1, by omega, by go_num, fun c hc => ?_⟩
          rw [List.take_succ_eq_append_getElem hlt] at hc
          rcases List.mem_append.1 hc with h | h
          · exact hno c h
          · rw [List.mem_singleton.1 h]; exact h58
        case measure => simp [intOf]; omega
    · obtain rfl : k = l.length := by omega
      rw [List.take_of_length_le (Nat.le_refl _)] at hno
      have hsp : splitF l = ([], l) := by
        unfold splitF
        rw [cut_none hno]
      obtain rfl : R = ([], l) := HR.out.symm.trans hsp
      clear HR hsp
      go_wp2_with fail
      go_ret2
      exact ⟨rfl, Below.refl _ _⟩
def dcells (ds : Decls) : List Value := acells (ds.map fun d => [d.1, d.2])
theorem dcells_snoc (ds : Decls) (d : List UInt8 × List UInt8) : dcells (ds ++ [d]) = dcells ds ++ strs [d.1, d.2] := by
  unfold dcells
  rw [List.map_append, List.map_singleton, acells_snoc]
theorem dcells_len (ds : Decls) : (dcells ds).length = ds.length * 2 := by
  induction ds with
  | nil => rfl
  | cons d l ih =>
    have : dcells (d :: l) = strs [d.1, d.2] ++ dcells l := rfl
    rw [this, List.length_append, ih, strs_len, List.length_cons]
    simp only [List.length_cons, List.length_nil]
    omega
theorem dec_1 {w : World} {pl : Option Addr} {ds : Decls} (h : Rd w pl (dcells ds)) {k : Nat} (hk : k < ds.length) : ∃ e1 o1, pl = some ⟨e1, o1, none⟩ ∧ w.cell? ⟨e1, o1 + k * 2, none⟩ = some (.string (bs ds[k].1)) ∧ w.cell? ⟨e1, o1 + k * 2 + 1, none⟩ = some (.string (bs ds[k].2)) := by
  obtain ⟨e1, o1, x0, x1, rfl, hg, h0, h1⟩ := at_1 (ats := ds.map fun d => [d.1, d.2]) h (by intro a ha; obtain ⟨d, _, rfl⟩ := List.mem_map.1 ha; rfl) (i := k) (by simpa using hk)
  have : (ds.map fun d => [d.1, d.2])[k]'(by simpa using hk) = [ds[k].1, ds[k].2] := by simp
  rw [this] at hg
  cases hg
  exact ⟨e1, o1, rfl, h0, h1⟩
def nameD (ds : Decls) (s : List UInt8) : List UInt8 × List UInt8 × Bool :=
  if ownF (splitF s).1 = true then ([], [], false) else match lookF ds (splitF s).1 with | some v => (v, (splitF s).2, true) | none => ([], (splitF s).2, (splitF s).1 == [])
theorem nameD_sp (ds : Decls) (s : List UInt8) : nameSp ds s false = if (nameD ds s).2.2 = true then some [(nameD ds s).1, (nameD ds s).2.1] else none := by
  unfold nameSp nameD
  by_cases h1 : ownF (splitF s).1 = true
  · rw [if_pos h1, if_pos h1]; rfl
  · rw [if_neg h1, if_neg h1, if_neg (by simp)]
    cases lookF ds (splitF s).1 with
    | some v => rfl
    | none =>
      by_cases h2 : (splitF s).1 = []
      · rw [h2]; rfl
      · have : ((splitF s).1 == []) = false := beq_eq_false_iff_ne.2 h2
        simp [h2]
theorem nameD_at (ds : Decls) (s : List UInt8) (h : (splitF s).1 ≠ []) : nameSp ds s true = nameSp ds s false := by
  unfold nameSp
  simp [h]
theorem look_take (ds : Decls) (p : List UInt8) {k : Nat} (hk : k < ds.length) : lookF (ds.take (k + 1)) p = if p = ds[k].1 then some ds[k].2 else lookF (ds.take k) p := by
  rw [List.take_succ_eq_append_getElem hk]
  exact look_snoc _ ds[k].1 ds[k].2 p
theorem rname24_any (ds : Decls) (s : List UInt8) (pl : Option Addr) (cl : Nat) (w : World) (hm : s.length ≤ 1099511627776) (hr : Rd w pl (dcells ds)) (hc : ds.length ≤ cl) (hcm : cl ≤ maxLen) :
    Calls Tryz.prog 83 #[.string (bs s), .slice pl ds.length cl] w (Gives w (.tuple #[.agg #[.string (bs (nameD ds s).1), .string (bs (nameD ds s).2.1)], .bool (nameD ds s).2.2])) := by
  have HN := Lib.hid (Blk.new w 40 #[.string ⟨#[]⟩, .string ⟨#[]⟩])
  have HB := Lib.hid (below_alloc1 w (.cells #[.string ⟨#[]⟩, .string ⟨#[]⟩] 40))
  have HSP := Lib.hid (rsplit_any s hm (w.alloc (.cells #[.string ⟨#[]⟩, .string ⟨#[]⟩] 40)))
  have HRD := Lib.hid hr
  unfold maxLen at hcm
  unfold Gives
  obtain ⟨D, hD⟩ : ∃ D, nameD ds s = D := ⟨_, rfl⟩
  rw [hD]
  unfold nameD ownF xmlL xmlnsL at hD
  generalize (splitF s).1 = p at *
  generalize (splitF s).2 = q at *
  have HD := Lib.hid hD
  clear hD hr hm
  cases ho1 : (p == [120, 109, 108])
  rotate_left 1
  · obtain rfl : ([], [], false) = D := HD.out ▸ by rw [ho1]; rfl
    clear HD
    go_enter Tryz.func83, Tryz.ntmps83
    go_wp2_with (first | (go_at_call 82; refine HSP.out.mono ?_; clear HSP; rintro e w2 ⟨rfl, hb2⟩; have HN0 := Lib.hid (HN.out.below hb2 HN.out.lt); have HB0 := Lib.hid (HB.out.trans (hb2.mono HB.out.size))) | (refine wpList_store (.tmp 4) (.tmp 20) 40 rfl rfl w.heap.size 0 _ _ #[.string ⟨#[]⟩, .string ⟨#[]⟩] rfl rfl HN0.out (by kernel_rfl) (by simp [Value.oneCell']) (by simp) ?_))
    intro w8 hb8 ho8
    rw [putCells_all #[.string ⟨#[]⟩, .string ⟨#[]⟩] #[.string ⟨#[]⟩, .string ⟨#[]⟩] rfl] at hb8
    have z0 := (hb8.cell 0).trans rfl
    have z1 := (hb8.cell 1).trans rfl
    have HBW := Lib.hid (HB0.out.trans (ho8.below (Nat.le_refl _)))
    clear hb8 ho8
    go_wp2_with fail
    refine bodyPost_ret (v := .tuple #[.agg #[.string ⟨#[]⟩, .string ⟨#[]⟩], .bool false]) (by simp [results, Tryz.results83, go_sem, z0, z1]) rfl ?_
    exact ⟨rfl, HBW.out⟩
  cases ho2 : (p == [120, 109, 108, 110, 115])
  rotate_left 1
  · obtain rfl : ([], [], false) = D := HD.out ▸ by rw [ho1, ho2]; rfl
    clear HD
    go_enter Tryz.func83, Tryz.ntmps83
    go_wp2_with (first | (go_at_call 82; refine HSP.out.mono ?_; clear HSP; rintro e w2 ⟨rfl, hb2⟩; have HN0 := Lib.hid (HN.out.below hb2 HN.out.lt); have HB0 := Lib.hid (HB.out.trans (hb2.mono HB.out.size))) | (refine wpList_store (.tmp 4) (.tmp 20) 40 rfl rfl w.heap.size 0 _ _ #[.string ⟨#[]⟩, .string ⟨#[]⟩] rfl rfl HN0.out (by kernel_rfl) (by simp [Value.oneCell']) (by simp) ?_))
    intro w8 hb8 ho8
    rw [putCells_all #[.string ⟨#[]⟩, .string ⟨#[]⟩] #[.string ⟨#[]⟩, .string ⟨#[]⟩] rfl] at hb8
    have z0 := (hb8.cell 0).trans rfl
    have z1 := (hb8.cell 1).trans rfl
    have HBW := Lib.hid (HB0.out.trans (ho8.below (Nat.le_refl _)))
    clear hb8 ho8
    go_wp2_with fail
    refine bodyPost_ret (v := .tuple #[.agg #[.string ⟨#[]⟩, .string ⟨#[]⟩], .bool false]) (by simp [results, Tryz.results83, go_sem, z0, z1]) rfl ?_
    exact ⟨rfl, HBW.out⟩
  rw [ho1, ho2] at HD
  have HD := Lib.hid (HD.out.symm.trans (if_neg (by decide)))
  go_enter Tryz.func83, Tryz.ntmps83
  go_wp2_with (first | (go_at_call 82; refine HSP.out.mono ?_; clear HSP; rintro e w2 ⟨rfl, hb2⟩; have HN0 := Lib.hid (HN.out.below hb2 HN.out.lt); have HB0 := Lib.hid (HB.out.trans (hb2.mono HB.out.size))) | fail)
  go_loop [8] (fun i => ∃ k : Nat, k ≤ ds.length ∧ i = .int .i64 ((k : Int) - 1) ∧ lookF ds p = lookF (ds.take k) p) (fun i => (intOf i + 1).toNat)
  case atStart => exact ⟨ds.length, Nat.le_refl _, by first | rfl | go_num, by rw [List.take_of_length_le (Nat.le_refl _)]⟩
  case round =>
    obtain ⟨k, hk, rfl, hlk⟩ := hrel
    cases k with
    | zero =>
      have hl0 : lookF ds p = none := by rw [hlk]; rfl
      rw [hl0] at HD
      obtain ⟨pe, hpe⟩ : ∃ pe, (p == []) = pe := ⟨_, rfl⟩
      have hp0 : p.isEmpty = pe := by rw [← hpe]; cases p <;> rfl
      have hp1 : (bs p).toList.isEmpty = pe := by rw [← hpe]; exact isE_bs p
      obtain rfl : D = ([], q, pe) := by rw [HD.out, hpe]
      have hz : ((0 : Nat) : Int) - 1 = -1 := rfl
      rw [hz]
      clear HD hlk hl0 hpe
      go_wp2_with (refine wpList_store (.tmp 4) (.tmp 43) 40 rfl rfl w.heap.size 0 _ _ #[.string ⟨#[]⟩, .string (bs q)] rfl rfl HN0.out (by kernel_rfl) (by simp [Value.oneCell']) (by simp) ?_)
      intro w8 hb8 ho8
      rw [putCells_all #[.string ⟨#[]⟩, .string ⟨#[]⟩] #[.string ⟨#[]⟩, .string (bs q)] rfl] at hb8
      have z0 := (hb8.cell 0).trans rfl
      have z1 := (hb8.cell 1).trans rfl
      have HBW := Lib.hid (HB0.out.trans (ho8.below (Nat.le_refl _)))
      clear hb8 ho8
      go_wp2_with fail
      refine bodyPost_ret (v := .tuple #[.agg #[.string ⟨#[]⟩, .string (bs q)], .bool pe]) (by simp [results, Tryz.results83, go_sem, z0, z1]) rfl ?_
      exact ⟨rfl, HBW.out⟩
    | succ k =>
      have hki : ((k + 1 : Nat) : Int) - 1 = (k : Int) := by omega
      rw [hki]
      rw [look_take ds p (show k < ds.length by omega)] at hlk
      obtain ⟨e1, o1, rfl, hc0, hc1⟩ := dec_1 HRD.out (show k < ds.length by omega)
      have hc0 := Below.keeps HB0.out _ _ hc0
      have hc1 := Below.keeps HB0.out _ _ hc1
      have hkl : (k : Int) < (ds.length : Int) := by omega
      obtain ⟨d, hd⟩ : ∃ d, ds[k] = d := ⟨_, rfl⟩
      rw [hd] at hlk hc0 hc1
      obtain ⟨d0, d1⟩ := d
      dsimp only at hlk hc0 hc1
      cases hE : (d0 == p)
      · have hne : ¬ p = d0 := fun h => by rw [h] at hE; simp at hE
        rw [if_neg hne] at hlk
        have HLK := Lib.hid hlk
        clear hlk hne
        go_wp2_with fail
        go_round
        case rel => exact ⟨k, by omega, by first | rfl | go_num, HLK.out⟩
        case measure => (simp [intOf]; try omega)
      · obtain rfl : d0 = p := by simpa using hE
        rw [if_pos rfl] at hlk
        rw [hlk] at HD
        obtain rfl : D = (d1, q, true) := HD.out
        clear HD hlk
        go_wp2_with (refine wpList_store (.tmp 4) (.tmp 41) 40 rfl rfl w.heap.size 0 _ _ #[.string (bs d1), .string (bs q)] rfl rfl HN0.out (by kernel_rfl) (by simp [Value.oneCell']) (by simp) ?_)
        intro w8 hb8 ho8
        rw [putCells_all #[.string ⟨#[]⟩, .string ⟨#[]⟩] #[.string (bs d1), .string (bs q)] rfl] at hb8
        have z0 := (hb8.cell 0).trans rfl
        have z1 := (hb8.cell 1).trans rfl
        have HBW := Lib.hid (HB0.out.trans (ho8.below (Nat.le_refl _)))
        clear hb8 ho8
        go_wp2_with fail
        refine bodyPost_ret (v := .tuple #[.agg #[.string (bs d1), .string (bs q)], .bool true]) (by simp [results, Tryz.results83, go_sem, z0, z1]) rfl ?_
        exact ⟨rfl, HBW.out⟩
theorem eqNmD (a0 a1 b0 b1 : List UInt8) (w : World) : (binOp .eql 40 (.agg #[.string (bs a0), .string (bs a1)]) (.agg #[.string (bs b0), .string (bs b1)])).run Tryz.prog w = .ok (.bool ((a0 == b0) && (a1 == b1))) w := by
  cases h0 : (a0 == b0)
  · go_simp
  · skip
    cases h1 : (a1 == b1) <;> go_simp
theorem hasN_step {out : List (List (List UInt8))} {m : Nat} {b0 b1 b2 n0 n1 : List UInt8} (h : m < out.length) (hg : out[m] = [b0, b1, b2]) (hno : hasN (out.take m) n0 n1 = false) : hasN (out.take (m + 1)) n0 n1 = (b0 == n0 && b1 == n1) := by
  unfold hasN at hno ⊢
  rw [List.take_succ_eq_append_getElem h, List.any_append, hno, hg]
  simp
theorem hasN_more {out : List (List (List UInt8))} {m : Nat} {n0 n1 : List UInt8} (h : hasN (out.take m) n0 n1 = true) : hasN out n0 n1 = true := by
  unfold hasN at h ⊢
  rw [← List.take_append_drop m out, List.any_append, h, Bool.true_or]
theorem declsF_all : ∀ {ats : List (List (List UInt8))} {ds : Decls}, declsF ats = some ds → ∀ a ∈ ats, declF a ≠ none
  | [], _, _, a, ha => by cases ha
  | b :: l, ds, h, a, ha => by
    unfold declsF at h
    obtain ⟨d, hd, h⟩ := Option.bind_eq_some_iff.1 h
    obtain ⟨ds', hl, _⟩ := Option.map_eq_some_iff.1 h
    rcases List.mem_cons.1 ha with rfl | ha
    · rw [hd]; simp
    · exact declsF_all hl a ha
theorem declF_two (x0 x1 : List UInt8) : declF [x0, x1] = if (x0 == [120, 109, 108, 110, 115]) = true then some (some []) else if ((splitF x0).1 == [120, 109, 108, 110, 115]) = true then (if (x1 == [] || (splitF x0).2 == [120, 109, 108] || (splitF x0).2 == [120, 109, 108, 110, 115]) = true then none else some (some (splitF x0).2)) else some none := by
  unfold declF ownF
  show (if x0 = xmlnsL then some (some []) else if (splitF x0).1 = xmlnsL then (if x1 = [] ∨ ((splitF x0).2 == xmlL || (splitF x0).2 == xmlnsL) = true then none else some (some (splitF x0).2)) else some none) = _
  unfold xmlnsL xmlL
  simp only [beq_iff_eq, Bool.or_eq_true, or_assoc]
section
variable {D : Decls} {out ats : List (List (List UInt8))} {j : Nat} {x0 x1 : List UInt8}
theorem ats_pass (h : j < ats.length) (hg : ats[j] = [x0, x1]) (hd : declF [x0, x1] ≠ none) (hc : (x0 == [120, 109, 108, 110, 115]) = true ∨ ((splitF x0).1 == [120, 109, 108, 110, 115]) = true) : atsSp D out (ats.drop j) = atsSp D out (ats.drop (j + 1)) := by
  have hs : ∃ q, declF [x0, x1] = some (some q) := by
    rw [declF_two] at hd ⊢
    by_cases h1 : (x0 == [120, 109, 108, 110, 115]) = true
    · exact ⟨_, if_pos h1⟩
    · rw [if_neg h1, if_pos (hc.resolve_left h1)] at hd ⊢
      by_cases h2 : (x1 == [] || (splitF x0).2 == [120, 109, 108] || (splitF x0).2 == [120, 109, 108, 110, 115]) = true
      · rw [if_pos h2] at hd; exact absurd rfl hd
      · exact ⟨_, if_neg h2⟩
  obtain ⟨q, hq⟩ := hs
  rw [atsSp_drop h, hg, atSp_eq, hq]
theorem ats_not (h : j < ats.length) (hg : ats[j] = [x0, x1]) (h1 : (x0 == [120, 109, 108, 110, 115]) = false) (h2 : ((splitF x0).1 == [120, 109, 108, 110, 115]) = false) (hO : ∀ a ∈ out, a.length = 2 + 1) :
    atsSp D out (ats.drop j) = if ((splitF x0).1 == [] || !((splitF x0).2 == [120, 109, 108, 110, 115])) = true then (match nameSp D x0 true with | some [n0, n1] => (if hasN out n0 n1 = true then none else atsSp D (out ++ [[n0, n1, x1]]) (ats.drop (j + 1))) | _ => none) else none := by
  have hq : declF [x0, x1] = some none := by rw [declF_two, h1, h2]; rfl
  rw [atsSp_drop h, hg, atSp_eq, hq]
  dsimp only
  by_cases hc : ((splitF x0).1 == [] || !((splitF x0).2 == [120, 109, 108, 110, 115])) = true
  · rw [if_pos hc, if_pos hc]
    rcases nameSp_two (ds := D) (s := x0) (attr := true) with h | ⟨a, b, h⟩
    · rw [h]; rfl
    · rw [h]
      show (if (out.any fun c => c.take 2 == [a, b, x1].take 2) = true then none else atsSp D (out ++ [[a, b, x1]]) (ats.drop (j + 1))) = _
      rw [any_hasN hO]
  · rw [if_neg hc, if_neg hc]
theorem ats_bare (h : j < ats.length) (hg : ats[j] = [x0, x1]) (h1 : (x0 == [120, 109, 108, 110, 115]) = false) (h2 : ((splitF x0).1 == [120, 109, 108, 110, 115]) = false) (hO : ∀ a ∈ out, a.length = 2 + 1) (hp : ((splitF x0).1 == []) = true) :
    atsSp D out (ats.drop j) = if hasN out [] (splitF x0).2 = true then none else atsSp D (out ++ [[[], (splitF x0).2, x1]]) (ats.drop (j + 1)) := by
  rw [ats_not h hg h1 h2 hO, hp, Bool.true_or, if_pos rfl]
  have hp' : (splitF x0).1 = [] := by simpa using hp
  have : nameSp D x0 true = some [[], (splitF x0).2] := by
    unfold nameSp
    rw [hp', if_neg (by decide), if_pos ⟨rfl, rfl⟩]
  rw [this]
theorem ats_pre (h : j < ats.length) (hg : ats[j] = [x0, x1]) (h1 : (x0 == [120, 109, 108, 110, 115]) = false) (h2 : ((splitF x0).1 == [120, 109, 108, 110, 115]) = false) (hO : ∀ a ∈ out, a.length = 2 + 1) (hp : ((splitF x0).1 == []) = false) :
    atsSp D out (ats.drop j) = if (!(nameD D x0).2.2 || (splitF x0).2 == [120, 109, 108, 110, 115]) = true then none else if hasN out (nameD D x0).1 (nameD D x0).2.1 = true then none else atsSp D (out ++ [[(nameD D x0).1, (nameD D x0).2.1, x1]]) (ats.drop (j + 1)) := by
  rw [ats_not h hg h1 h2 hO, hp, Bool.false_or, nameD_at D x0 (by simpa using hp), nameD_sp]
  cases hb : (nameD D x0).2.2 <;> cases hq : ((splitF x0).2 == [120, 109, 108, 110, 115]) <;> rfl
end
end Go.Proofs.YtkghpmpmcafhkaaGreatDoor
