/-
  JourV: what the laws' walks share: tapes and journals at rest, rows that a law makes; alive.
-/
import Derived.Test.YtoiknidlincdkaaDoorJourE
import Derived.Lib.SlBytesConst
namespace Go.Proofs.YtoiknidlincdkaaDoor
open Go.RowKit
attribute [local go_sem] bs_toList

def ok1 (w : World) (e : Ending) (w' : World) : Prop := e = .returned (.bool true) ∧ Below w.heap.size w w'
/-- a row that a law has made of bytes that stay -/
theorem stay_rows {S : List Nat} {w : World} {g : Nat} {t : TypeId} {f : Nat × Nat} {us : List Value} {ls : List (List UInt8)} (hb : w.heap[g]? = some (.cells us.toArray t f)) (hg : S.contains g = false) (hl : us.length = ls.length) (hm : ls.length ≤ 1000)
    (h : ∀ (i : Nat) (l : List UInt8), ls[i]? = some l → ∃ u, us[i]? = some u ∧ ∀ w', But S w w' → Byt w' u l) : StayL S w (.slice (some ⟨g, 0, none⟩) ls.length ls.length) ls := by
  refine ⟨_, _, us, rfl, Nat.le_refl _, by unfold maxLen; omega, hl, fun w' k => ⟨?_, fun i l hil => ?_⟩⟩
  · refine .inr ⟨g, 0, rfl, fun i u hu => ?_⟩
    have hb' := (k.block g (Array.getElem?_eq_some_iff.1 hb).1 hg).trans hb
    rw [cell_of_row w' g (0 + i) us.toArray t f hb', Nat.zero_add]
    simpa using hu
  · obtain ⟨u, hu, hy⟩ := h i l hil
    exact ⟨u, hu, hy w' k⟩
theorem stay_byt {S : List Nat} {w : World} {g c : Nat} {t : TypeId} {f : Nat × Nat} {cs : Array Value} {l : List UInt8} (hb : w.heap[g]? = some (.cells cs t f)) (hg : S.contains g = false) (hl : cs.toList = bvs l) (hc : l.length ≤ c) (hm : c ≤ maxLen) :
    ∀ w', But S w w' → Byt w' (.slice (some ⟨g, 0, none⟩) l.length c) l := by
  intro w' k
  refine ⟨_, c, rfl, hc, hm, .inr ⟨g, 0, rfl, fun i u hu => ?_⟩⟩
  have hb' := (k.block g (Array.getElem?_eq_some_iff.1 hb).1 hg).trans hb
  rw [cell_of_row w' g (0 + i) cs t f hb', Nat.zero_add]
  rw [← hl] at hu
  simpa using hu
/-- bytes that lay there ahead of all -/
theorem stay_old {S : List Nat} {W w : World} {v : Value} {ls : List (List UInt8)} (h : BytL W v ls) (hb : Below W.heap.size W w) (hS : ∀ g ∈ S, W.heap.size ≤ g) : StayL S w v ls :=
  StayL.of_keep h fun _ k => Below.keeps (hb.trans (k.below hS hb.size))
theorem newP_any (w : World) (E : Nat → Addr) (n : Int) (he : ErrsOn [0] w E) (h0 : 0 ≤ n) (h1 : n ≤ 65536) :
    Calls Tryd.prog 12 #[.int .i64 n] w fun e w' => e = .returned (.tuple #[.pointer (some ⟨w.heap.size, 0, none⟩), .nilIface]) ∧ Tp w' w.heap.size none (TSt.P [] 0 n) ∧ Below w.heap.size w w' := by
  refine (new_any w E n he).mono ?_
  rintro e w' (⟨_, rfl, ht, hb⟩ | ⟨h, _⟩)
  · rw [p_zero n h0 h1] at ht
    exact ⟨rfl, ht, hb⟩
  · unfold TSt.setRoomE at h
    rw [if_neg (by omega)] at h
    cases h
/-- the journal of a tape that holds rows' frames alone -/
theorem openR_any (B : Nat) (w : World) (E : Nat → Addr) (a : Nat) (o : Option Nat) (X : List Nat) (rs : List (List UInt8)) (r : Int) (ht : Tp w a o (JSt.rest rs r).t) (hok : okRows rs = true) (hg : Glob B w E) (hB : B ≤ w.heap.size) (ha : ∀ g ∈ a :: o.toList, B ≤ g) (hX : ∀ g ∈ X, g < w.heap.size) :
    Calls Tryd.prog 15 #[.pointer (some ⟨a, 0, none⟩)] w fun e w' => e = .returned (.tuple #[.pointer (some ⟨w.heap.size, 0, none⟩), .nilIface]) ∧
      (∃ p' o', Nx w o o' ∧ JG B w' E w.heap.size a p' o' X (JSt.rest rs r)) ∧ But (a :: o.toList) w w' := by
  have h := open_rest rs (framesJ rs).length r hok
  refine (open_any7 B w E a o X _ ht h.2 hg hB ha hX).mono ?_
  rintro e w' ⟨rfl, ⟨p', o', _, hn, hj⟩, k⟩
  have e : openJ (JSt.rest rs r).t = JSt.rest rs r := h.1
  rw [e] at hj
  exact ⟨rfl, ⟨p', o', hn, hj⟩, k⟩
theorem Glob.of {w : World} {E : Nat → Addr} (he : Errs w E) (ht : HalfTab w) : Glob w.heap.size w E := ⟨fun _ h => he.below h, fun _ h => ht.keep (Below.keeps h)⟩
theorem JG.tp {B : Nat} {w : World} {E : Nat → Addr} {j a : Nat} {p o : Option Nat} {X : List Nat} {st : JSt} (h : JG B w E j a p o X st) : ∀ g ∈ a :: o.toList, B ≤ g := fun g hg => h.base g (jS_tape j a p o g hg)
theorem JG.below {B : Nat} {w w' : World} {E : Nat → Addr} {j a : Nat} {p o : Option Nat} {X : List Nat} {st : JSt} (h : JG B w E j a p o X st) (k : But (jS j a p o) w w') : Below B w w' := k.below h.base h.hB
theorem JG.jsn {B : Nat} {w : World} {E : Nat → Addr} {j a : Nat} {p o : Option Nat} {X : List Nat} {st : JSt} (h : JG B w E j a p o X st) {g : Nat} (hg : w.heap.size ≤ g) : (jS j a p o).contains g = false := by
  rw [Bool.eq_false_iff]
  intro hc
  have := h.jn.lt g (List.contains_iff_mem.1 hc)
  omega
set_option maxRecDepth 20000 in
set_option maxHeartbeats 4000000 in
theorem alive_any (w : World) (E : Nat → Addr) (he : Errs w E) (ht : HalfTab w) :
    Calls Tryd.prog 8 #[] w (ok1 w) := by
  have HGL := Lib.hid (Glob.of he ht)
  have HN := Lib.hid (newP_any w E 100 (he.on [0] rfl) (by decide) (by decide))
  have kc := fun (w : World) (C : Array Value) (n c : Nat) => Lib.run_convert_bytes_const (P := Tryd.prog) w 22 5 C n c Tryd.underlying22 Tryd.underlying5
  have kc2 := fun (w : World) (o : Obj) (C : Array Value) (n c : Nat) => show (convert 22 22 (.slice (some ⟨w.heap.size + 1, 0, none⟩) n c)).run Tryd.prog ((w.alloc o).alloc (.cells C 5)) = .ok (.slice (some ⟨w.heap.size + 1, 0, none⟩) n c) ((w.alloc o).alloc (.cells C 5 (C.size, C.size + 1))) from by
    have h := kc (w.alloc o) C n c
    rw [World.size_alloc] at h
    exact h
  clear he ht
  go_enter Tryd.func8, Tryd.ntmps8
  go_wp2_with fail
  refine HN.out.mono ?_
  rintro e w1 ⟨rfl, ht1, hb1⟩
  have HT1 := Lib.hid ht1
  have HB1 := Lib.hid hb1
  clear ht1 hb1 HN
  go_wp2_with fail
  refine (openR_any w.heap.size w1 E w.heap.size none [] [] 100 HT1.out rfl (HGL.out.below HB1.out) HB1.out.size (by simp) (by simp)).mono ?_
  rintro e w2 ⟨rfl, ⟨p2, o2, _, hj2⟩, k2⟩
  have HJ2 := Lib.hid hj2
  have HB2 := Lib.hid (HB1.out.trans (k2.below (B := w.heap.size) (by simp) HB1.out.size))
  clear hj2 k2
  go_wp2_with fail
  have hbl := below_alloc (below_alloc (below_alloc1 w2 (.cells #[.int .u8 97] 5 (1, 2))) (.cells #[.int .u8 98, .int .u8 99] 5 (2, 3))) (.cells #[.slice (some ⟨w2.heap.size, 0, none⟩) 1 1, .slice (some ⟨w2.heap.size + 1, 0, none⟩) 2 2] 22)
  have g1 := (Below.heap_alloc _ (.cells #[.slice (some ⟨w2.heap.size, 0, none⟩) 1 1, .slice (some ⟨w2.heap.size + 1, 0, none⟩) 2 2] 22) w2.heap.size (by simp; omega)).trans ((Below.heap_alloc _ (.cells #[.int .u8 98, .int .u8 99] 5 (2, 3)) w2.heap.size (by simp)).trans (heap_alloc_new w2 (.cells #[.int .u8 97] 5 (1, 2))))
  have g2 := (Below.heap_alloc _ (.cells #[.slice (some ⟨w2.heap.size, 0, none⟩) 1 1, .slice (some ⟨w2.heap.size + 1, 0, none⟩) 2 2] 22) (w2.heap.size + 1) (by simp)).trans (show ((w2.alloc (.cells #[.int .u8 97] 5 (1, 2))).alloc (.cells #[.int .u8 98, .int .u8 99] 5 (2, 3))).heap[w2.heap.size + 1]? = some (.cells #[.int .u8 98, .int .u8 99] 5 (2, 3)) from by
    have h := heap_alloc_new (w2.alloc (.cells #[.int .u8 97] 5 (1, 2))) (.cells #[.int .u8 98, .int .u8 99] 5 (2, 3))
    rw [World.size_alloc] at h
    exact h)
  have g3 : (((w2.alloc (.cells #[.int .u8 97] 5 (1, 2))).alloc (.cells #[.int .u8 98, .int .u8 99] 5 (2, 3))).alloc (.cells #[.slice (some ⟨w2.heap.size, 0, none⟩) 1 1, .slice (some ⟨w2.heap.size + 1, 0, none⟩) 2 2] 22)).heap[w2.heap.size + 1 + 1]? = some (.cells #[.slice (some ⟨w2.heap.size, 0, none⟩) 1 1, .slice (some ⟨w2.heap.size + 1, 0, none⟩) 2 2] 22) := by
    have h := heap_alloc_new ((w2.alloc (.cells #[.int .u8 97] 5 (1, 2))).alloc (.cells #[.int .u8 98, .int .u8 99] 5 (2, 3))) (.cells #[.slice (some ⟨w2.heap.size, 0, none⟩) 1 1, .slice (some ⟨w2.heap.size + 1, 0, none⟩) 2 2] 22)
    rw [World.size_alloc, World.size_alloc] at h
    exact h
  have hnj : ∀ g, w2.heap.size ≤ g → (jS w1.heap.size w.heap.size p2 o2).contains g = false := fun g hg => HJ2.out.jsn hg
  have HST := Lib.hid (stay_rows (S := jS w1.heap.size w.heap.size p2 o2) (us := [.slice (some ⟨w2.heap.size, 0, none⟩) 1 1, .slice (some ⟨w2.heap.size + 1, 0, none⟩) 2 2]) (ls := [[97], [98, 99]]) g3 (hnj (w2.heap.size + 1 + 1) (by omega)) rfl (by decide) (fun i l hil => by
    have y1 := stay_byt (S := jS w1.heap.size w.heap.size p2 o2) (c := 1) (l := [97]) g1 (hnj w2.heap.size (Nat.le_refl _)) rfl (by decide) (by decide)
    have y2 := stay_byt (S := jS w1.heap.size w.heap.size p2 o2) (c := 2) (l := [98, 99]) g2 (hnj (w2.heap.size + 1) (by omega)) rfl (by decide) (by decide)
    match i, hil with
    | 0, hil => cases hil; exact ⟨_, rfl, y1⟩
    | 1, hil => cases hil; exact ⟨_, rfl, y2⟩
    | i + 2, hil => simp at hil))
  have HJ3 := Lib.hid (HJ2.out.same hbl)
  have HB3 := Lib.hid (HB2.out.trans (hbl.mono HB2.out.size))
  clear hbl g1 g2 g3 hnj kc kc2
  generalize ((w2.alloc (.cells #[.int .u8 97] 5 (1, 2))).alloc (.cells #[.int .u8 98, .int .u8 99] 5 (2, 3))).alloc (.cells #[.slice (some ⟨w2.heap.size, 0, none⟩) 1 1, .slice (some ⟨w2.heap.size + 1, 0, none⟩) 2 2] 22) = w3 at *
  have HPU := Lib.hid (put_any w.heap.size w3 E w1.heap.size w.heap.size p2 o2 [] (JSt.rest [] 100) _ [[97], [98, 99]] HJ3.out HST.out (by decide) (by decide))
  obtain ⟨hq1, hq2⟩ := put_rest [] [[97], [98, 99]] 100 (by decide) (by decide)
  rw [hq1, hq2, errV_zero] at HPU
  clear hq1 hq2
  refine HPU.out.mono ?_
  rintro e w4 ⟨rfl, ⟨p4, o4, _, _, hj4⟩, k4⟩
  have HJ4 := Lib.hid hj4
  have HB4 := Lib.hid (HB3.out.trans (HJ3.out.below k4))
  clear hj4 k4 HPU
  go_wp2_with fail
  refine (crash_any w4 w.heap.size o4 _ 0 (by decide) HJ4.out.jn.tape).mono ?_
  rintro e w5 ⟨rfl, ht5, k5⟩
  rw [crash_rest] at ht5
  have HT5 := Lib.hid ht5
  have HA5 := Lib.hid HJ4.out.tp
  have HB5 := Lib.hid (HB4.out.trans (k5.below HJ4.out.tp HJ4.out.hB))
  clear ht5 k5
  go_wp2_with fail
  refine (openR_any w.heap.size w5 E w.heap.size o4 [] [[97], [98, 99]] 100 HT5.out (by decide) (HGL.out.below HB5.out) HB5.out.size HA5.out (by simp)).mono ?_
  rintro e w6 ⟨rfl, ⟨p6, o6, _, hj6⟩, k6⟩
  have HJ6 := Lib.hid hj6
  have HB6 := Lib.hid (HB5.out.trans (k6.below HA5.out HB5.out.size))
  clear hj6 k6
  go_wp2_with fail
  refine (lenOf_any w6 _ _ p6 o6 [] _ HJ6.out.jn).mono ?_
  rintro e w6' ⟨rfl, rfl⟩
  rw [show (((JSt.rest [[97], [98, 99]] 100).rows.length : Nat) : Int) = 2 from rfl]
  go_wp2_with fail
  refine (rowsOf_any w6 _ _ p6 o6 [] _ HJ6.out.jn (by decide)).mono ?_
  rintro e w7 ⟨v7, rfl, ho7, hb7⟩
  have HB7 := Lib.hid (HB6.out.trans (hb7.mono HB6.out.size))
  obtain ⟨us, hus, hown, hel⟩ := ho7
  obtain ⟨u1, hu1, hou1⟩ := hel 1 [98, 99] rfl
  have hy1 := owns_byt hou1
  have s1 := str_of hy1
  obtain ⟨pr, cr, rfl, h1, h2, h3⟩ := owns_rd hown
  obtain ⟨b, off, rfl, hcs⟩ := h3.has (by intro e; subst e; simp at hu1)
  have hc1 := hcs 1 _ hu1
  have hlen : (JSt.rest [[97], [98, 99]] 100).rows.length = 2 := rfl
  rw [hlen]
  obtain ⟨p1, c1, rfl, _, _, _⟩ := hy1
  simp only [List.length_cons, List.length_nil, Nat.zero_add, Nat.reduceAdd] at s1 hc1
  clear hou1 hel hown hus h3 hcs hu1 hb7 hlen h1 h2
  go_wp2_with fail
  go_ret
  exact ⟨rfl, HB7.out⟩
end Go.Proofs.YtoiknidlincdkaaDoor
