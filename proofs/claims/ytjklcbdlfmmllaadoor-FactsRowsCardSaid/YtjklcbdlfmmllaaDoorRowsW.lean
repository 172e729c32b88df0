/-
  RowsW: facts.Rows: the bytes of all facts of a row.
-/
import Derived.Test.YtjklcbdlfmmllaaDoorFactB2
import Derived.Test.YtjklcbdlfmmllaaDoorTryYY
namespace Go.Proofs.YtjklcbdlfmmllaaDoor
open Go.RowKit Go.Extern.Stop Go.Stop Go.Extern

/-- THE SLICE VALUE v IS THE ROW fs OF FACTS in w. -/
def FctL (w : World) (v : Value) (fs : List Fct) : Prop :=
  ∃ p cap, v = .slice p fs.length cap ∧ fs.length ≤ cap ∧ cap ≤ maxLen ∧
    ∀ (i : Nat) (f : Fct), fs[i]? = some f → ∃ b off, p = some ⟨b, off, none⟩ ∧ ∀ j, j < 14 → w.cell? ⟨b, off + i * 14 + j, none⟩ = (fctA f)[j]?
theorem FctL.keep {w w' : World} {v : Value} {fs : List Fct} (h : FctL w v fs) (hk : ∀ a v, w.cell? a = some v → w'.cell? a = some v) : FctL w' v fs := by
  obtain ⟨p, cap, rfl, h1, h2, h3⟩ := h
  refine ⟨p, cap, rfl, h1, h2, fun i f hf => ?_⟩
  obtain ⟨b, off, e, g⟩ := h3 i f hf
  refine ⟨b, off, e, fun j hj => ?_⟩
  have h := g j hj
  have hs : j < (fctA f).size := hj
  rw [Array.getElem?_eq_getElem hs] at h ⊢
  exact hk _ _ h
/-- the row of byte slices that is being made, all of it fresh -/
def OutB (w : World) (B : Nat) (v : Value) (ls : List (List UInt8)) : Prop :=
  ∃ us : List Value, us.length = ls.length ∧ w.ownsRow B 39 1 v ls.length us ∧ ∀ (i : Nat) (l : List UInt8), ls[i]? = some l → ∃ u, us[i]? = some u ∧ w.ownsRow B 5 1 u l.length (bvs l)
theorem OutB.keep {w w' : World} {B B' : Nat} {Ts : List TypeId} {v : Value} {ls : List (List UInt8)} (h : OutB w B v ls) (k : Keeps B' Ts w w') (h1 : Ts.contains 39 = false) (h2 : Ts.contains 5 = false) : OutB w' B v ls := by
  obtain ⟨us, a, b, c⟩ := h
  exact ⟨us, a, k.owns b h1, fun i f hf => by obtain ⟨u, hu, ho⟩ := c i f hf; exact ⟨u, hu, k.owns ho h2⟩⟩
theorem OutB.below {w w' : World} {B : Nat} {v : Value} {ls : List (List UInt8)} (h : OutB w B v ls) (k : Below w.heap.size w w') : OutB w' B v ls :=
  h.keep (Ts := []) (Keeps.of_below (B := 0) k (Nat.zero_le _)) rfl rfl
theorem OutB.lower {w : World} {B B' : Nat} {v : Value} {ls : List (List UInt8)} (h : OutB w B v ls) (hB : B' ≤ B) : OutB w B' v ls := by
  obtain ⟨us, a, b, c⟩ := h
  exact ⟨us, a, owns_lower b hB, fun i f hf => by obtain ⟨u, hu, ho⟩ := c i f hf; exact ⟨u, hu, owns_lower ho hB⟩⟩
theorem OutB.bytl {w : World} {B : Nat} {v : Value} {ls : List (List UInt8)} (h : OutB w B v ls) : BytL w v ls := by
  obtain ⟨us, a, b, c⟩ := h
  obtain ⟨p, cap, hv, h1, h2, h3⟩ := owns_rd b
  exact ⟨p, cap, us, hv, h1, h2, h3, a, fun i f hf => by obtain ⟨u, hu, ho⟩ := c i f hf; exact ⟨u, hu, owns_byt ho⟩⟩
theorem OutB.but {S : List Nat} {w w' : World} {B : Nat} {v : Value} {ls : List (List UInt8)} (h : But S w w') (hS : ∀ s ∈ S, s < B) (ho : OutB w B v ls) : OutB w' B v ls := by
  obtain ⟨us, a, b, c⟩ := ho
  exact ⟨us, a, But.owns h hS b, fun i f hf => by obtain ⟨u, hu, ho⟩ := c i f hf; exact ⟨u, hu, But.owns h hS ho⟩⟩
theorem OutB.add {w2 w3 : World} {B : Nat} {v v3 : Value} {ls : List (List UInt8)} {us : List Value} {l : List UInt8} {u : Value} (hus : us.length = ls.length)
    (ho3 : w3.ownsRow B 39 1 v3 (ls.length + 1) (us ++ [u])) (hown : w2.ownsRow B 39 1 v ls.length us) (hg3 : w2.grownBy w3 v.ownBlock)
    (hel : ∀ (i : Nat) (l : List UInt8), ls[i]? = some l → ∃ u, us[i]? = some u ∧ w2.ownsRow B 5 1 u l.length (bvs l)) (hu : w2.ownsRow B 5 1 u l.length (bvs l)) : OutB w3 B v3 (ls ++ [l]) := by
  refine ⟨us ++ [u], by simp [hus], ?_, fun i f' hf => ?_⟩
  · rw [List.length_append]
    exact ho3
  · by_cases hi : i < ls.length
    · rw [List.getElem?_append_left hi] at hf
      obtain ⟨u', hu', ho⟩ := hel i f' hf
      exact ⟨u', by rw [List.getElem?_append_left (by omega)]; exact hu', grown_owns hg3 hown ho (by decide)⟩
    · rw [List.getElem?_append_right (by omega)] at hf
      have hi0 : i - ls.length = 0 := by
        have := (List.getElem?_eq_some_iff.1 hf).1
        simp at this; omega
      rw [hi0] at hf
      obtain rfl : l = f' := by simpa using hf
      exact ⟨_, by rw [List.getElem?_append_right (by omega), hus, hi0]; rfl, grown_owns hg3 hown hu (by decide)⟩
theorem mustB_err (w : World) (E : Nat → Addr) (k : Nat) (v : Value) : Calls Tryd.prog 17 #[v, errV E (k + 1)] w fun e w' => e = .panicked (panE E k) ∧ w = w' := by
  have HC := Lib.hid (check_err w E k)
  unfold panE at *
  rw [errV_suc] at *
  unfold errAt at *
  go_enter Tryd.func17, Tryd.ntmps17
  go_wp2_with fail
  refine HC.out.mono ?_
  rintro e w' ⟨rfl, rfl⟩
  go_wp2_with fail
  exact ⟨rfl, rfl, rfl⟩
theorem bytInfo : (Tryd.prog.info? 39).map (fun i => (i.zero, i.size, i.bytes)) = some (some (.slice none 0 0), 1, 24) := by kernel_rfl
theorem fctInfo : (Tryd.prog.info? 33).map (fun i => (i.zero, i.size, i.bytes)) = some (some (.agg #[.int .i64 0, .int .i64 0, .int .i64 0, .int .i64 0, .int .i64 0, .int .i64 0, .int .i64 0, .int .i64 0, .int .i64 0, .int .i64 0, .int .i64 0, .int .i64 0, .int .i64 0, .float .f64 0]), 14, 112) := by kernel_rfl
theorem all_take {α : Type} (q : α → Bool) (fs : List α) (k : Nat) (hk : k < fs.length) : (fs.take (k + 1)).all q = ((fs.take k).all q && q fs[k]) := by
  rw [List.take_succ_eq_append_getElem hk, List.all_append]
  simp
set_option maxRecDepth 20000 in
set_option maxHeartbeats 4000000 in
theorem rows1_any (fs : List Fct) (hle : fs.length ≤ 50) (hwf : ∀ f ∈ fs, f.wf) (g : Nat) (v : Value) (w : World) (E : Nat → Addr) (h : IdsG w E) (hc : w.cell? ⟨g, 0, none⟩ = some v) (hv : FctL w v fs) :
    Calls Tryd.prog 16 #[.pointer (some ⟨g, 0, none⟩)] w (PanR E (fun v w' => fs.all rightF = true ∧ OutB w' w.heap.size v (fs.map encL)) (fun n => n = 3 ∧ fs.all rightF = false) w) := by
  have HG := Lib.hid (fun w' (hb : Below w.heap.size w w') => h.below hb)
  have HWF := Lib.hid hwf
  obtain ⟨p, cap, rfl, h1, h2, h3⟩ := hv
  obtain ⟨i0, hi, hz0, hz1, hz2⟩ := info_parts bytInfo
  obtain ⟨i1, hi1, hy0, hy1, hy2⟩ := info_parts fctInfo
  have H3 := Lib.hid h3
  unfold maxLen at h2
  clear h hwf h3
  go_enter Tryd.func16, Tryd.ntmps16
  go_wp2_with fail
  clear hc
  go_loopw [2, 7] (fun o i wr => ∃ k : Nat, k ≤ fs.length ∧ i = .int .i64 k ∧ (fs.take k).all rightF = true ∧ OutB wr w.heap.size o ((fs.take k).map encL) ∧ Below w.heap.size w wr) (fun _ i _ => fs.length - (intOf i).toNat)
  case atStart =>
    have ho : w.ownsRow w.heap.size 39 1 (.slice none 0 0) 0 [] := ⟨rfl, .inl ⟨rfl, rfl⟩⟩
    exact ⟨0, by omega, rfl, rfl, ⟨[], rfl, ho, by simp⟩, Below.refl _ _⟩
  case round =>
    obtain ⟨k, hk, rfl, hall, hout, hbw⟩ := hrel
    have HALL := Lib.hid hall
    have HO := Lib.hid hout
    clear hall hout
    by_cases hlt : k < fs.length
    · obtain ⟨b, off, rfl, hcs⟩ := H3.out k fs[k] (by simp [hlt])
      have HW := Lib.hid (HWF.out fs[k] (List.getElem_mem hlt))
      have HT := Lib.hid (all_take rightF fs k hlt)
      have HMP := Lib.hid (show (fs.take (k + 1)).map encL = (fs.take k).map encL ++ [encL fs[k]] by rw [List.take_succ_eq_append_getElem hlt, List.map_append]; rfl)
      have HFA := Lib.hid (fun (hf : rightF fs[k] = false) => (show fs.all rightF = false by
        rw [Bool.eq_false_iff]
        intro h9
        rw [List.all_eq_true] at h9
        exact absurd (h9 _ (List.getElem_mem hlt)) (by rw [hf]; decide)))
      generalize fs[k] = f at *
      have g0 := Below.keeps hbw _ _ ((hcs 0 (by omega)).trans rfl)
      have g1 := Below.keeps hbw _ _ ((hcs 1 (by omega)).trans rfl)
      have g2 := Below.keeps hbw _ _ ((hcs 2 (by omega)).trans rfl)
      have g3 := Below.keeps hbw _ _ ((hcs 3 (by omega)).trans rfl)
      have g4 := Below.keeps hbw _ _ ((hcs 4 (by omega)).trans rfl)
      have g5 := Below.keeps hbw _ _ ((hcs 5 (by omega)).trans rfl)
      have g6 := Below.keeps hbw _ _ ((hcs 6 (by omega)).trans rfl)
      have g7 := Below.keeps hbw _ _ ((hcs 7 (by omega)).trans rfl)
      have g8 := Below.keeps hbw _ _ ((hcs 8 (by omega)).trans rfl)
      have g9 := Below.keeps hbw _ _ ((hcs 9 (by omega)).trans rfl)
      have g10 := Below.keeps hbw _ _ ((hcs 10 (by omega)).trans rfl)
      have g11 := Below.keeps hbw _ _ ((hcs 11 (by omega)).trans rfl)
      have g12 := Below.keeps hbw _ _ ((hcs 12 (by omega)).trans rfl)
      have g13 := Below.keeps hbw _ _ ((hcs 13 (by omega)).trans rfl)
      rw [Nat.add_zero] at g0
      clear hcs
      have B := Lib.hid (below_alloc hbw (.cells #[.int .i64 0, .int .i64 0, .int .i64 0, .int .i64 0, .int .i64 0, .int .i64 0, .int .i64 0, .int .i64 0, .int .i64 0, .int .i64 0, .int .i64 0, .int .i64 0, .int .i64 0, .float .f64 0] 33))
      have M := Lib.hid (Blk.new wr 33 #[.int .i64 0, .int .i64 0, .int .i64 0, .int .i64 0, .int .i64 0, .int .i64 0, .int .i64 0, .int .i64 0, .int .i64 0, .int .i64 0, .int .i64 0, .int .i64 0, .int .i64 0, .float .f64 0])
      go_wp2_with (refine wpList_store (.tmp 4) (.tmp 10) 33 rfl rfl wr.heap.size 0 _ _ (fctA f) rfl rfl M.out (by kernel_rfl) (by simp [Value.oneCell', fctA]) (by simp [fctA]) ?_)
      intro w7 hn7 ko7
      have h7 : Blk w7 wr.heap.size 33 (fctA f) := hn7
      have B7 := Lib.hid (B.out.trans (ko7.below hbw.size))
      have HO7 := Lib.hid (OutB.below HO.out ((below_alloc1 wr (.cells #[.int .i64 0, .int .i64 0, .int .i64 0, .int .i64 0, .int .i64 0, .int .i64 0, .int .i64 0, .int .i64 0, .int .i64 0, .int .i64 0, .int .i64 0, .int .i64 0, .int .i64 0, .float .f64 0] 33)).trans (ko7.below (Nat.le_refl _))))
      clear hn7 ko7 M B HO g0 g1 g2 g3 g4 g5 g6 g7 g8 g9 g10 g11 g12 g13
      have m0 := (h7.cell 0).trans rfl
      have m1 := (h7.cell 1).trans rfl
      have m2 := (h7.cell 2).trans rfl
      have m3 := (h7.cell 3).trans rfl
      have m4 := (h7.cell 4).trans rfl
      have m5 := (h7.cell 5).trans rfl
      have m6 := (h7.cell 6).trans rfl
      have m7 := (h7.cell 7).trans rfl
      have m8 := (h7.cell 8).trans rfl
      have m9 := (h7.cell 9).trans rfl
      have m10 := (h7.cell 10).trans rfl
      have m11 := (h7.cell 11).trans rfl
      have m12 := (h7.cell 12).trans rfl
      have m13 := (h7.cell 13).trans rfl
      clear h7
      have HFB := Lib.hid (fun w' h => fbytes_any f HW.out w' E h)
      unfold fctV fctA GivesB at HFB
      unfold fctA at *
      cases hr : rightF f
      · have he4 : encE f = 4 ∧ encL f = [] := by unfold encE encL; rw [hr]; exact ⟨rfl, rfl⟩
        rw [he4.1] at HFB
        have HFF := Lib.hid (HFA.out hr)
        have HMB := Lib.hid (fun v w' => mustB_err w' E 3 v)
        unfold panE at HMB
        clear he4 hr HFA HT HMP
        rw [show errV E 4 = .iface 143 (.pointer (some (E 3))) from rfl] at HFB
        rw [show errV E (3 + 1) = .iface 143 (.pointer (some (E 3))) from rfl] at HMB
        generalize encL f = l at *
        go_wp2_with fail
        refine (HFB.out _ (HG.out _ B7.out)).mono ?_
        rintro e w2 ⟨v, rfl, ho2, hb2⟩
        have B2 := Lib.hid (B7.out.trans (hb2.mono B7.out.size))
        clear hb2 ho2 m0 m1 m2 m3 m4 m5 m6 m7 m8 m9 m10 m11 m12 m13
        go_wp2_with fail
        refine (HMB.out _ _).mono ?_
        rintro e w2' ⟨rfl, rfl⟩
        go_wp2_with fail
        exact ⟨rfl, B2.out, .inr ⟨3, by omega, ⟨rfl, HFF.out⟩, rfl⟩⟩
      · have he0 : encE f = 0 := by unfold encE; rw [if_pos hr]
        rw [he0, errV_zero] at HFB
        rw [hr, HALL.out] at HT
        clear he0 hr HFA
        generalize hel : encL f = l at *
        clear hel
        go_wp2_with fail
        refine (HFB.out _ (HG.out _ B7.out)).mono ?_
        rintro e w2 ⟨v, rfl, ho2, hb2⟩
        have hbw2 := B7.out.trans (hb2.mono B7.out.size)
        have HO2 := Lib.hid (OutB.below HO7.out hb2)
        obtain ⟨p2, c2, rfl, hp1, hp2, hp3⟩ := owns_rd ho2
        have HD := Lib.hid (owns_lower ho2 B7.out.size)
        clear hb2 hp1 hp2 hp3 ho2 HO7 B7 m0 m1 m2 m3 m4 m5 m6 m7 m8 m9 m10 m11 m12 m13
        go_wp2_with fail
        refine (mustB_any _ _ _ _).mono ?_
        rintro e w2' ⟨rfl, rfl⟩
        obtain ⟨us, hus, hown, hel⟩ := HO2.out
        obtain ⟨po, co, rfl, _, _, _⟩ := owns_rd hown
        have HEL := Lib.hid hel
        have hown4 := owns_below hown (below_alloc1 w2 (.cells #[.slice p2 l.length c2] 39))
        have hs3 := (below_alloc hbw2 (.cells #[.slice p2 l.length c2] 39)).size
        have htl : ((fs.take k).map encL).length = k := by rw [List.length_map, List.length_take]; omega
        rw [htl] at hown4 hown hus
        have HTL := Lib.hid htl
        clear hel htl
        go_wp2_with (at_builtin; refine wpList_app (.tmp 11) (.tmp 17) 24 rfl rfl w.heap.size 39 i0 (.slice none 0 0) 1 24 Tryd.underlying24 hi hz0 hz1 hz2 rfl (by decide) _ _ _ ?b0 hown4 _ _ _ [.slice p2 l.length c2] rfl rfl (rd_at _ #[_] _ _ _ rfl) ?b1 ?b2 ?b3 hs3 ?_)
        case b0 => first | rfl | (rw [HTL.out]; rfl)
        case b1 => first | exact rfl | simp [Value.oneCell']
        case b2 => unfold maxLen; omega
        case b3 => omega
        intro v4 w4 ho4 hg4
        have hal4 := below_alloc1 w2 (.cells #[.slice p2 l.length c2] 39)
        have hbw4 := (below_alloc hbw2 (.cells #[.slice p2 l.length c2] 39)).grown hg4 hs3 (fun j hj => (hown4.lt j hj).1)
        have HO4 := Lib.hid (show OutB w4 w.heap.size v4 ((fs.take k).map encL ++ [l]) from by
          refine OutB.add (u := .slice p2 l.length c2) (hus.trans HTL.out.symm) (by rw [HTL.out]; exact ho4) (by rw [HTL.out]; exact hown4) (by first | exact hg4 | (rw [HTL.out]; exact hg4)) (fun i f hf => ?_) ?_
          · obtain ⟨u, hu, ho⟩ := HEL.out i f hf
            exact ⟨u, hu, owns_below ho hal4⟩
          · exact owns_below HD.out hal4)
        clear hown hown4 ho4 hg4 hal4 hs3
        go_wp2_with fail
        go_roundw
        case rel => exact ⟨k + 1, by omega, by go_num, HT.out, by rw [HMP.out]; exact HO4.out, hbw4⟩
        case measure => simp [intOf]; omega
    · obtain rfl : k = fs.length := by omega
      have hl9 : fs.take fs.length = fs := List.take_of_length_le (Nat.le_refl _)
      have HA := HALL.out
      have HO9 := HO.out
      rw [hl9] at HA HO9
      clear hl9 HALL HO
      have HO := Lib.hid HO9
      have HALL := Lib.hid HA
      obtain ⟨us4, hus4, hown5, hel5⟩ := HO9
      obtain ⟨po4, co4, rfl, _, _, _⟩ := owns_rd hown5
      clear HA hus4 hown5 hel5
      go_wp2_with fail
      go_ret
      exact ⟨hbw, .inl ⟨_, rfl, HALL.out, HO.out⟩⟩
/-- THE ROWS of all facts: their bytes; where one is not right: none, and the form's error -/
def RowsR (E : Nat → Addr) (fs : List Fct) (w : World) (e : Ending) (w' : World) : Prop :=
  Below w.heap.size w w' ∧ ((fs.all rightF = true ∧ ∃ v, e = .returned (.tuple #[v, .nilIface]) ∧ BytL w' v (fs.map encL)) ∨ (fs.all rightF = false ∧ e = .returned (.tuple #[.slice none 0 0, errAt (E 3)])))
set_option maxRecDepth 20000 in
set_option maxHeartbeats 4000000 in
theorem rows_any (fs : List Fct) (hle : fs.length ≤ 50) (hwf : ∀ f ∈ fs, f.wf) (v : Value) (w : World) (E : Nat → Addr) (h : IdsG w E) (hv : FctL w v fs) :
    Calls Tryd.prog 6 #[v] w (RowsR E fs w) := by
  have B := Lib.hid (below_alloc1 w (.cells #[v] 22))
  have N := Lib.hid (Blk.new w 22 #[v])
  have HV := Lib.hid (hv.keep (keep_alloc w (.cells #[v] 22)))
  have G' := Lib.hid (h.below B.out)
  obtain ⟨p, cap, rfl, h1, h2, h3⟩ := hv
  clear h h1 h2 h3
  go_enter Tryd.func6, Tryd.ntmps6
  go_wp2_with fail
  generalize hw1 : w.alloc (.cells #[.slice p fs.length cap] 22) = w1 at *
  refine (tryYY_any w1 E 16 #[.pointer (some ⟨w.heap.size, 0, none⟩)] [] (fun w1 v w2 => fs.all rightF = true ∧ OutB w2 w1.heap.size v (fs.map encL)) (fun n _ _ => n = 3 ∧ fs.all rightF = false) (by simp) (fun w2 hb => (G'.out.below hb.nil_below).errs) ?_ ?_ ?_).mono ?_
  · intro w1 v w2 ho
    obtain ⟨us, _, ho, _⟩ := ho.2
    obtain ⟨p, c9, rfl, _⟩ := owns_rd ho
    exact ⟨_, _, _, rfl⟩
  · intro w; rfl
  · intro w2 hb hs
    refine (rows1_any fs hle hwf w.heap.size _ w2 E (G'.out.below hb) ((N.out.below hb N.out.lt).cell 0) (HV.out.keep (Below.keeps hb))).mono ?_
    intro e w3 hp
    exact hp.may
  · rintro e w3 ⟨hb0, w2, w4, hs, hb1, hb2, hb3, hor⟩
    have B3 := Lib.hid (B.out.trans (hb0.nil_below.mono B.out.size))
    rcases hor with ⟨v, rfl, hq, ho⟩ | ⟨n, _, ⟨rfl, hq⟩, rfl⟩
    · have HO := Lib.hid (OutB.but (S := [w1.heap.size, w1.heap.size + 1, w1.heap.size + 2]) hb3 (by simp; omega) ho)
      have HQ := Lib.hid hq
      obtain ⟨us, _, ho', _⟩ := ho
      rw [List.length_map] at ho'
      obtain ⟨p9, c9, rfl, _⟩ := owns_rd ho'
      clear hb0 hb1 hb2 hb3 hs hq
      go_wp2_with fail
      go_ret2
      exact ⟨B3.out, .inl ⟨HQ.out, _, rfl, HO.out.bytl⟩⟩
    · have HQ := Lib.hid hq
      clear hb0 hb1 hb2 hb3 hs hq
      unfold errAt
      go_wp2_with fail
      go_ret2
      exact ⟨B3.out, .inr ⟨HQ.out, rfl⟩⟩
end Go.Proofs.YtjklcbdlfmmllaaDoor
