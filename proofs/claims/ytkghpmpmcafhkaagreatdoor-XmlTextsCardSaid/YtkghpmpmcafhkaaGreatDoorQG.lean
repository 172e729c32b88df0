/-
  XmlV: a right tree's text, whole, is read to it. No program.
  XmlX: a tree that is read is right, and its text is at most six times as long. No program.
  XmlF: right trees whose text isn't long have no long strings. No program.
  Sm1: the program's Same of trees of 1 names.
-/
import Derived.Test.YtkghpmpmcafhkaaGreatDoorQC
import Derived.Test.YtkghpmpmcafhkaaGreatDoorPA
import Derived.Test.YtkghpmpmcafhkaaGreatDoorPE
import Derived.Test.YtkghpmpmcafhkaaGreatDoorPD
namespace Go.Proofs.YtkghpmpmcafhkaaGreatDoor
open Go.RowKit

mutual
theorem fu_el : ∀ (e : Tr) (d : Nat), e.ok 1 → e.rgt d = true → e.fu + 2 ≤ e.wrt.length
  | .node nm ats ks tx, d, hok, hr => by
    unfold Tr.ok at hok
    obtain ⟨h1, h2, h3⟩ := hok
    obtain ⟨a, rfl⟩ := one_of h1
    unfold Tr.rgt at hr
    simp only [Bool.and_eq_true, decide_eq_true_eq, beq_iff_eq] at hr
    obtain ⟨⟨⟨⟨⟨_, r2⟩, _⟩, _⟩, _⟩, r6⟩ := hr
    have r2 : nameB a = true := r2
    have hane : a ≠ [] := name_ne r2
    have hal : 0 < a.length := List.length_pos_iff.2 hane
    have h := fu_kids ks d false h3 r6
    unfold Tr.fu Tr.wrt
    rw [if_neg (show ¬ ([a] : List (List UInt8)).getD 0 [] = [] from hane), if_neg (show ¬ ([a] : List (List UInt8)).getD 0 [] = [] from hane)]
    cases ks with
    | nil =>
      rw [if_pos (show ([] : List Tr).length = 0 from rfl)]
      simp only [Tr.fuL, List.length_append, List.length_cons, List.length_nil, List.getD_cons_zero]
      omega
    | cons k ks =>
      rw [if_neg (show ¬ (k :: ks).length = 0 by simp)]
      simp only [List.length_append, List.length_cons, List.length_nil, List.getD_cons_zero]
      omega
theorem fu_kids : ∀ (ks : List Tr) (d : Nat) (prev : Bool), Tr.okL 1 ks → Tr.rgtL d prev ks = true → Tr.fuL ks ≤ (Tr.wrtL ks).length
  | [], _, _, _, _ => by unfold Tr.fuL; omega
  | k :: ks, d, prev, hok, hr => by
    unfold Tr.okL at hok
    unfold Tr.rgtL at hr
    rw [wrtL_cons, List.length_append]
    unfold Tr.fuL
    split at hr
    · rw [Bool.and_eq_true] at hr
      have h1 := fu_el k (d + 1) hok.1 hr.1
      have h2 := fu_kids ks d false hok.2 hr.2
      omega
    · rename_i hnm
      rw [Bool.and_eq_true] at hr
      have h2 := fu_kids ks d true hok.2 hr.2
      obtain ⟨nm, ats, kk, tx⟩ := k
      have hnm2 : nm.getD 0 [] = [] := by simpa [Tr.name, Tr.nm] using hnm
      have h := hr.1
      unfold txtB at h
      simp only [Bool.and_eq_true, Bool.not_eq_true', beq_eq_false_iff_ne, decide_eq_true_eq] at h
      obtain ⟨⟨⟨⟨t1, _⟩, _⟩, _⟩, t5⟩ := h
      have t1 : tx ≠ [] := t1
      have t5 : sigB tx = true := t5
      have := List.length_pos_iff.2 (esc_ne (v := false) t1 t5)
      unfold Tr.fu Tr.wrt
      rw [if_pos hnm2, if_pos hnm2]
      omega
end
/-- A RIGHT TREE'S TEXT IS READ TO IT -/
theorem parse_wrt {e : Tr} (hok : e.ok 1) (h : textE e = 0) : parseE e.wrt = .ok e := by
  unfold textE at h
  have hr : e.rgt 1 = true := by
    cases hr : e.rgt 1 with
    | true => rfl
    | false => rw [hr, if_pos rfl] at h; cases h
  rw [hr, if_neg (by decide)] at h
  have hl : ¬ 20000 < e.wrt.length := by
    intro hl
    rw [if_pos hl] at h
    cases h
  have hf := fu_el e 1 hok hr
  have := elem_app e (2 * e.wrt.length + 2) 0 [] hok hr (by omega)
  rw [List.append_nil] at this
  unfold parseE
  rw [if_neg hl, this]
end Go.Proofs.YtkghpmpmcafhkaaGreatDoor

namespace Go.Proofs.YtkghpmpmcafhkaaGreatDoor
open Go.RowKit

theorem cutR_of : ∀ {t s m : List UInt8}, cutR t s = some m → s = t ++ m
  | [], s, m, h => by
    unfold cutR at h
    injection h
  | c :: t, [], m, h => by
    unfold cutR at h
    cases h
  | c :: t, x :: s, m, h => by
    unfold cutR at h
    split at h
    · rename_i e
      rw [e, cutR_of h]
      rfl
    · cases h
theorem nameR_of {s nm m : List UInt8} (h : nameR s = some (nm, m)) : nameB nm = true ∧ s = nm ++ m := by
  unfold nameR at h
  split at h
  · rename_i hn
    injection h with h
    injection h with h1 h2
    subst h1 h2
    exact ⟨hn, List.takeWhile_append_dropWhile.symm⟩
  · cases h
theorem drop_head {p : UInt8 → Bool} : ∀ (s : List UInt8), s.any p = true → ∃ c t, s.dropWhile (fun c => !p c) = c :: t ∧ p c = true
  | [], h => by cases h
  | x :: s, h => by
    rw [List.dropWhile_cons]
    cases hx : p x with
    | true => exact ⟨x, s, by simp, hx⟩
    | false =>
      rw [List.any_cons, hx, Bool.false_or] at h
      obtain ⟨c, t, h1, h2⟩ := drop_head s h
      exact ⟨c, t, by simpa using h1, h2⟩
theorem upR_of {p : UInt8 → Bool} {s a m : List UInt8} (h : upR p s = some (a, m)) : s = a ++ m ∧ ∃ c t, m = c :: t ∧ p c = true := by
  unfold upR at h
  split at h
  · rename_i hn
    injection h with h
    injection h with h1 h2
    subst h1 h2
    exact ⟨List.takeWhile_append_dropWhile.symm, drop_head s hn⟩
  · cases h
theorem blankR_le : ∀ (s : List UInt8), (blankR s).length ≤ s.length
  | [] => Nat.le_refl _
  | x :: s => by
    have := blankR_le s
    unfold blankR at this ⊢
    rw [List.dropWhile_cons]
    split
    · simp only [List.length_cons]; omega
    · exact Nat.le_refl _
theorem attrR_of {s m : List UInt8} {a : List (List UInt8)} (h : attrR s = some (a, m)) : a.length = 2 ∧ nameB (a.getD 0 []) = true ∧ sigB (a.getD 1 []) = true ∧ (atT a).length + 6 * m.length ≤ 6 * s.length := by
  unfold attrR at h
  rw [Option.bind_eq_some_iff] at h
  obtain ⟨⟨nm, s1⟩, h1, h⟩ := h
  rw [Option.bind_eq_some_iff] at h
  obtain ⟨s2, h2, h⟩ := h
  simp only at h h2
  cases hb : blankR s2 with
  | nil => rw [hb] at h; cases h
  | cons q t =>
    rw [hb] at h
    simp only at h
    split at h
    · rw [Option.bind_eq_some_iff] at h
      obtain ⟨⟨v, s3⟩, h3, h⟩ := h
      rw [Option.bind_eq_some_iff] at h
      obtain ⟨s4, h4, h⟩ := h
      rw [Option.map_eq_some_iff] at h
      obtain ⟨u, h5, h⟩ := h
      simp only at h4 h5 h
      injection h with e1 e2
      subst e1 e2
      obtain ⟨n1, n2⟩ := nameR_of h1
      obtain ⟨d1, _, d3⟩ := textD_back h5 true
      refine ⟨rfl, n1, d1, ?_⟩
      have l1 := congrArg List.length n2
      have l2 := congrArg List.length (cutR_of h2)
      have l3 := congrArg List.length (upR_of h3).1
      have l4 := congrArg List.length (cutR_of h4)
      have l5 := congrArg List.length hb
      have b1 := blankR_le s1
      have b2 := blankR_le s2
      unfold atT
      simp only [List.length_append, List.length_cons, List.length_nil, List.getD_cons_zero, List.getD_cons_succ] at *
      omega
    · cases h
theorem attrsR_of : ∀ {n : Nat} {out ats' : List (List (List UInt8))} {s m : List UInt8}, attrsR n out s = some (ats', m) → out.length ≤ 12 →
    ∃ ats, ats' = out ++ ats ∧ ats'.length ≤ 12 ∧ (∀ a ∈ ats, a.length = 2) ∧ atsB (out.map fun a => a.getD 0 []) ats = true ∧ (ats.flatMap atT).length + 6 * m.length ≤ 6 * s.length
  | 0, _, _, _, _, h, _ => by
    unfold attrsR at h
    cases h
  | n + 1, out, ats', s, m, h, ho => by
    have hb := blankR_le s
    unfold attrsR at h
    split at h
    · rw [Option.bind_eq_some_iff] at h
      obtain ⟨⟨a, s1⟩, h1, h⟩ := h
      simp only at h
      split at h
      · rename_i hc
        obtain ⟨a1, a2, a3, a4⟩ := attrR_of h1
        obtain ⟨ats, e, r1, r2, r3, r4⟩ := attrsR_of h (by rw [List.length_append, List.length_singleton]; omega)
        refine ⟨a :: ats, by rw [e]; simp, r1, ?_, ?_, ?_⟩
        · intro x hx
          rcases List.mem_cons.1 hx with rfl | hx
          · exact a1
          · exact r2 x hx
        · unfold atsB
          rw [a2, a3]
          rw [List.map_append] at r3
          have hcn : (out.map fun a => a.getD 0 []).contains (a.getD 0 []) = false := by
            rw [← hc.2, List.contains_eq_any_beq, List.any_map]
            congr 1
            funext b
            simp [BEq.comm]
          rw [hcn]
          exact r3
        · rw [List.flatMap_cons, List.length_append]
          omega
      · cases h
    · injection h with h
      injection h with e1 e2
      subst e1 e2
      refine ⟨[], by simp, ho, (fun a ha => (by cases ha)), rfl, ?_⟩
      simp
      omega
theorem read_right : ∀ (n : Nat),
    (∀ (d : Nat) (s m : List UInt8) (e : Tr), elemP n d s = .ok (e, m) → e.ok 1 ∧ e.rgt (d + 1) = true ∧ e.wrt.length + 6 * m.length ≤ 6 * s.length) ∧
    (∀ (d : Nat) (prev : Bool) (out ks' : List Tr) (s m : List UInt8), contP n d out s = .ok (ks', m) → (prev = true → ∃ t, s = 60 :: t) → ∃ ks, ks' = out ++ ks ∧ Tr.okL 1 ks ∧ Tr.rgtL d prev ks = true ∧ (Tr.wrtL ks).length + 6 * m.length ≤ 6 * s.length) := by
  intro n
  induction n with
  | zero =>
    refine ⟨fun d s m e h => ?_, fun d prev out ks' s m h => ?_⟩
    · unfold elemP at h; cases h
    · unfold contP at h; cases h
  | succ n ih =>
    obtain ⟨ihE, ihC⟩ := ih
    refine ⟨fun d s m e h => ?_, fun d prev out ks' s m h hp => ?_⟩
    · unfold elemP at h
      cases h1 : (cutR [60] s).bind nameR with
      | none => rw [h1] at h; cases h
      | some p =>
        obtain ⟨nm, s1⟩ := p
        rw [h1] at h
        simp only at h
        rw [Option.bind_eq_some_iff] at h1
        obtain ⟨s0, h0, h1⟩ := h1
        obtain ⟨n1, n2⟩ := nameR_of h1
        have l0 := congrArg List.length (cutR_of h0)
        have l1 := congrArg List.length n2
        split at h
        · cases h
        rename_i hd
        cases h2 : attrsR (s1.length + 1) [] s1 with
        | none => rw [h2] at h; cases h
        | some q =>
          obtain ⟨ats, s2⟩ := q
          rw [h2] at h
          simp only at h
          obtain ⟨ats2, e1, r1, r2, r3, r4⟩ := attrsR_of h2 (by simp)
          rw [List.nil_append] at e1
          subst e1
          have r3 : atsB [] ats = true := r3
          have hane : nm ≠ [] := name_ne n1
          split at h
          · rename_i t
            cases h3 : cutR [62] t with
            | none => rw [h3] at h; cases h
            | some s3 =>
              rw [h3] at h
              injection h with h
              injection h with e2 e3
              subst e2 e3
              have l3 := congrArg List.length (cutR_of h3)
              refine ⟨?_, ?_, ?_⟩
              · unfold Tr.ok
                exact ⟨rfl, r2, by unfold Tr.okL; trivial⟩
              · unfold Tr.rgt
                simp only [Bool.and_eq_true, decide_eq_true_eq, beq_iff_eq]
                refine ⟨⟨⟨⟨⟨by omega, n1⟩, trivial⟩, r3⟩, r1⟩, ?_⟩
                unfold Tr.rgtL
                rfl
              · unfold Tr.wrt
                rw [if_neg (show ¬ ([nm] : List (List UInt8)).getD 0 [] = [] from hane), if_pos (show ([] : List Tr).length = 0 from rfl)]
                simp only [List.length_append, List.length_cons, List.length_nil, List.getD_cons_zero] at *
                omega
          · cases h3 : cutR [62] s2 with
            | none => rw [h3] at h; cases h
            | some s3 =>
              rw [h3] at h
              simp only at h
              have l3 := congrArg List.length (cutR_of h3)
              cases h4 : contP n (d + 1) [] s3 with
              | error x => rw [h4] at h; cases h
              | ok q =>
                obtain ⟨ks, s4⟩ := q
                rw [h4] at h
                simp only at h
                obtain ⟨ks2, e2, k1, k2, k3⟩ := ihC (d + 1) false [] ks s3 s4 h4 (fun hh => by cases hh)
                rw [List.nil_append] at e2
                subst e2
                cases h5 : (cutR [60, 47] s4).bind nameR with
                | none => rw [h5] at h; cases h
                | some q =>
                  obtain ⟨nm2, s5⟩ := q
                  rw [h5] at h
                  simp only at h
                  rw [Option.bind_eq_some_iff] at h5
                  obtain ⟨s6, h6, h7⟩ := h5
                  have l6 := congrArg List.length (cutR_of h6)
                  have l7 := congrArg List.length (nameR_of h7).2
                  split at h
                  · rename_i hnm
                    subst hnm
                    cases h8 : cutR [62] (blankR s5) with
                    | none => rw [h8] at h; cases h
                    | some s8 =>
                      rw [h8] at h
                      injection h with h
                      injection h with e2 e3
                      subst e2 e3
                      have l8 := congrArg List.length (cutR_of h8)
                      have l9 := blankR_le s5
                      refine ⟨?_, ?_, ?_⟩
                      · unfold Tr.ok
                        exact ⟨rfl, r2, k1⟩
                      · unfold Tr.rgt
                        simp only [Bool.and_eq_true, decide_eq_true_eq, beq_iff_eq]
                        exact ⟨⟨⟨⟨⟨by omega, n1⟩, trivial⟩, r3⟩, r1⟩, k2⟩
                      · unfold Tr.wrt
                        rw [if_neg (show ¬ ([nm2] : List (List UInt8)).getD 0 [] = [] from hane)]
                        split
                        · simp only [List.length_append, List.length_cons, List.length_nil, List.getD_cons_zero] at *
                          omega
                        · simp only [List.length_append, List.length_cons, List.length_nil, List.getD_cons_zero] at *
                          omega
                  · cases h
    · unfold contP at h
      cases h1 : cutR [60, 47] s with
      | some s1 =>
        rw [h1] at h
        injection h with h
        injection h with e1 e2
        subst e1 e2
        refine ⟨[], by simp, by unfold Tr.okL; trivial, by unfold Tr.rgtL; rfl, ?_⟩
        rw [wrtL_nil]
        simp
      | none =>
        rw [h1] at h
        simp only at h
        cases h2 : upR (fun c => c == 60) s with
        | none => rw [h2] at h; cases h
        | some q =>
          obtain ⟨t, s2⟩ := q
          rw [h2] at h
          obtain ⟨u1, c, t2, u2, u3⟩ := upR_of h2
          cases t with
          | nil =>
            simp only at h
            cases h3 : elemP n d s with
            | error x => rw [h3] at h; cases h
            | ok q =>
              obtain ⟨e, s3⟩ := q
              rw [h3] at h
              simp only at h
              obtain ⟨a1, a2, a3⟩ := ihE d s s3 e h3
              obtain ⟨ks, e1, k1, k2, k3⟩ := ihC d false (out ++ [e]) ks' s3 m h (fun hh => by cases hh)
              refine ⟨e :: ks, by rw [e1]; simp, ?_, ?_, ?_⟩
              · unfold Tr.okL
                exact ⟨a1, k1⟩
              · unfold Tr.rgtL
                rw [if_pos, a2, k2]
                · rfl
                · obtain ⟨nm, ats, kk, tx⟩ := e
                  unfold Tr.rgt at a2
                  simp only [Bool.and_eq_true] at a2
                  have := name_ne a2.1.1.1.1.2
                  simpa [Tr.name, Tr.nm] using this
              · rw [wrtL_cons, List.length_append]
                omega
          | cons x xs =>
            simp only at h
            cases h3 : textD (x :: xs) with
            | none => rw [h3] at h; cases h
            | some u =>
              rw [h3] at h
              simp only at h
              obtain ⟨d1, d2, d3⟩ := textD_back h3 false
              have c60 : c = 60 := by simpa using u3
              subst c60
              obtain ⟨ks, e1, k1, k2, k3⟩ := ihC d true (out ++ [textK u]) ks' s2 m h (fun _ => ⟨t2, u2⟩)
              have hpf : prev = false := by
                cases prev with
                | false => rfl
                | true =>
                  exfalso
                  obtain ⟨t3, e3⟩ := hp rfl
                  have hx : x = 60 := by
                    rw [u1] at e3
                    injection e3
                  unfold upR at h2
                  split at h2
                  · injection h2 with h2
                    injection h2 with h4 h5
                    rw [e3] at h4
                    cases h4
                  · cases h2
              subst hpf
              refine ⟨textK u :: ks, by rw [e1]; simp, ?_, ?_, ?_⟩
              · unfold Tr.okL
                refine ⟨?_, k1⟩
                unfold textK Tr.ok
                exact ⟨rfl, fun a ha => (by cases ha), by unfold Tr.okL; trivial⟩
              · unfold Tr.rgtL
                rw [if_neg (by simp [textK, Tr.name, Tr.nm]), k2, Bool.and_true]
                unfold txtB textK
                have := d2 (by simp)
                simp [Tr.t, Tr.ats, Tr.ks, d1, this]
              · rw [wrtL_cons, List.length_append]
                have hw : (textK u).wrt = escF false u := by
                  unfold textK Tr.wrt
                  rfl
                have l2 := congrArg List.length u1
                rw [hw]
                simp only [List.length_append, List.length_cons] at *
                omega
/-- A TREE THAT IS READ IS RIGHT -/
theorem parse_right {s : List UInt8} {e : Tr} (h : parseE s = .ok e) : e.ok 1 ∧ e.rgt 1 = true ∧ e.wrt.length ≤ 6 * s.length := by
  unfold parseE at h
  split at h
  · cases h
  cases h1 : elemP (2 * s.length + 2) 0 s with
  | error x => rw [h1] at h; cases h
  | ok q =>
    obtain ⟨x, m⟩ := q
    rw [h1] at h
    obtain ⟨a1, a2, a3⟩ := (read_right _).1 0 s m x h1
    cases m with
    | nil =>
      injection h with h
      subst h
      exact ⟨a1, a2, by simpa using a3⟩
    | cons y ys => cases h
/-- what is read from a short text is written, read again, and so on -/
theorem parse_again {s : List UInt8} {e : Tr} (h : parseE s = .ok e) (hs : s.length ≤ 2000) : e.ok 1 ∧ textE e = 0 ∧ parseE e.wrt = .ok e := by
  obtain ⟨h1, h2, h3⟩ := parse_right h
  have h4 : textE e = 0 := by
    unfold textE
    rw [h2, if_neg (by decide), if_neg (by omega)]
  exact ⟨h1, h4, parse_wrt h1 h4⟩
end Go.Proofs.YtkghpmpmcafhkaaGreatDoor

namespace Go.Proofs.YtkghpmpmcafhkaaGreatDoor
open Go.RowKit

theorem textGo_len : ∀ (n : Nat) (s u : List UInt8), s.length < n → textGo n s = some u → u.length ≤ 4 * s.length
  | 0, _, _, h, _ => by omega
  | n + 1, s, u, hn, h => by
    unfold textGo at h
    cases hc : cutB 38 s with
    | none => rw [hc] at h; cases h; omega
    | some p =>
      obtain ⟨a, b⟩ := p
      rw [hc] at h
      simp only at h
      have e1 := cutB_len hc
      cases hb : cutB 59 b with
      | none => rw [hb] at h; cases h
      | some q =>
        obtain ⟨nm, rest⟩ := q
        rw [hb] at h
        simp only at h
        have e2 := cutB_len hb
        obtain ⟨t, ht, h⟩ := Option.bind_eq_some_iff.1 h
        obtain ⟨v, hv, rfl⟩ := Option.map_eq_some_iff.1 h
        have h1 := refF_len ht
        have h2 := textGo_len n rest v (by omega) hv
        simp only [List.length_append]
        omega
theorem esc_low (v : Bool) (l : List UInt8) (h : sigB l = true) : l.length ≤ 4 * (escF v l).length :=
  textGo_len _ _ _ (Nat.lt_succ_self _) (text_esc v l.length l (Nat.le_refl _) h).1
theorem ats_small : ∀ (seen : List (List UInt8)) (ats : List (List (List UInt8))), atsB seen ats = true → (∀ a ∈ ats, a.length = 2) → (ats.flatMap atT).length ≤ 200000 → ∀ a ∈ ats, ∀ s ∈ a, shS s
  | _, [], _, _, _ => by simp
  | seen, a :: l, h, h2, hl => by
    unfold atsB at h
    simp only [Bool.and_eq_true] at h
    obtain ⟨⟨⟨_, b2⟩, _⟩, b4⟩ := h
    rw [List.flatMap_cons, List.length_append] at hl
    have ih := ats_small _ l b4 (fun x hx => h2 x (by simp [hx])) (by omega)
    obtain ⟨x0, x1, rfl⟩ := two_of (h2 a (by simp))
    have hlow := esc_low true x1 b2
    have hat : (atT [x0, x1]).length = x0.length + (escF true x1).length + 4 := by
      unfold atT
      simp only [List.length_append, List.length_cons, List.length_nil, List.getD_cons_zero, List.getD_cons_succ]
      omega
    intro y hy
    rcases List.mem_cons.1 hy with rfl | hy
    · intro s hs
      simp only [List.mem_cons, List.not_mem_nil, or_false] at hs
      rcases hs with rfl | rfl <;> (show _ ≤ _; omega)
    · exact ih y hy
mutual
theorem shr_el : ∀ (e : Tr) (d : Nat), e.ok 1 → e.rgt d = true → e.wrt.length ≤ 200000 → e.shr
  | .node nm ats ks tx, d, hok, hr, hl => by
    unfold Tr.ok at hok
    obtain ⟨h1, h2, h3⟩ := hok
    obtain ⟨a, rfl⟩ := one_of h1
    unfold Tr.rgt at hr
    simp only [Bool.and_eq_true, decide_eq_true_eq, beq_iff_eq] at hr
    obtain ⟨⟨⟨⟨⟨_, r2⟩, r3⟩, r4⟩, _⟩, r6⟩ := hr
    have r2 : nameB a = true := r2
    have hane : a ≠ [] := name_ne r2
    unfold Tr.wrt at hl
    rw [if_neg (show ¬ ([a] : List (List UInt8)).getD 0 [] = [] from hane)] at hl
    simp only [List.length_append, List.length_cons, List.length_nil, List.getD_cons_zero] at hl
    have hk : (Tr.wrtL ks).length ≤ 200000 := by
      cases ks with
      | nil => simp [Tr.wrtL]
      | cons k ks =>
        rw [if_neg (show ¬ ((k :: ks).length = 0) by simp)] at hl
        simp only [List.length_append, List.length_cons, List.length_nil] at hl
        omega
    unfold Tr.shr
    refine ⟨fun s hs => ?_, ats_small _ _ r4 h2 (by omega), ?_, shr_kids ks d false h3 r6 hk⟩
    · simp only [List.mem_cons, List.not_mem_nil, or_false] at hs
      subst hs
      show _ ≤ _
      omega
    · subst r3
      show _ ≤ _
      simp
theorem shr_kids : ∀ (ks : List Tr) (d : Nat) (prev : Bool), Tr.okL 1 ks → Tr.rgtL d prev ks = true → (Tr.wrtL ks).length ≤ 200000 → Tr.shrL ks
  | [], _, _, _, _, _ => by unfold Tr.shrL; trivial
  | k :: ks, d, prev, hok, hr, hl => by
    unfold Tr.okL at hok
    unfold Tr.rgtL at hr
    rw [wrtL_cons, List.length_append] at hl
    unfold Tr.shrL
    split at hr
    · rw [Bool.and_eq_true] at hr
      exact ⟨shr_el k (d + 1) hok.1 hr.1 (by omega), shr_kids ks d false hok.2 hr.2 (by omega)⟩
    · rename_i hnm
      rw [Bool.and_eq_true] at hr
      refine ⟨?_, shr_kids ks d true hok.2 hr.2 (by omega)⟩
      obtain ⟨nm, ats, kk, tx⟩ := k
      have ho := hok.1
      unfold Tr.ok at ho
      obtain ⟨a, rfl⟩ := one_of ho.1
      have hnm2 : a = [] := by simpa [Tr.name, Tr.nm] using hnm
      subst hnm2
      have h := hr.1
      unfold txtB at h
      simp only [Bool.and_eq_true, Bool.not_eq_true', beq_eq_false_iff_ne, decide_eq_true_eq] at h
      obtain ⟨⟨⟨⟨t1, _⟩, t3⟩, t4⟩, t5⟩ := h
      have t5 : sigB tx = true := t5
      have t3 : ats.length = 0 := t3
      have t4 : kk.length = 0 := t4
      obtain rfl := List.eq_nil_of_length_eq_zero t3
      obtain rfl := List.eq_nil_of_length_eq_zero t4
      have := esc_low false tx t5
      unfold Tr.wrt at hl
      rw [if_pos (show ([[]] : List (List UInt8)).getD 0 [] = [] from rfl)] at hl
      unfold Tr.shr
      refine ⟨by simp [shS], by simp, ?_, by unfold Tr.shrL; trivial⟩
      show _ ≤ _
      omega
end
theorem parse_shr {s : List UInt8} {e : Tr} (h : parseE s = .ok e) (hs : s.length ≤ 20000) : e.shr := by
  obtain ⟨h1, h2, h3⟩ := parse_right h
  exact shr_el e 1 h1 h2 (by omega)
end Go.Proofs.YtkghpmpmcafhkaaGreatDoor

namespace Go.Proofs.YtkghpmpmcafhkaaGreatDoor
open Go.RowKit Go.Extern.Stop Go.Stop Go.Extern

attribute [local go_sem] bs_toList
theorem pneqAttr (a0 a1 b0 b1 : List UInt8) (w : World) : (binOp .neq 69 (.agg #[.string (bs a0), .string (bs a1)]) (.agg #[.string (bs b0), .string (bs b1)])).run Tryz.prog w = .ok (.bool (!((a0 == b0) && (a1 == b1)))) w := by
  cases h0 : (a0 == b0)
  · go_simp
  · skip
    cases h1 : (a1 == b1) <;> go_simp
set_option maxRecDepth 20000 in
set_option maxHeartbeats 2000000 in
theorem equal_any (pa qa : Option Addr) (ca da : Nat) (ax ay : List (List (List UInt8))) (w : World) (hx : ∀ a ∈ ax, a.length = 1 + 1) (hy : ∀ a ∈ ay, a.length = 1 + 1) (_h1 : ax.length ≤ ca) (h2 : ca ≤ maxLen) (h3 : Rd w pa (acells ax)) (h4 : ay.length ≤ da) (h5 : da ≤ maxLen) (h6 : Rd w qa (acells ay)) :
    Calls Tryz.prog 68 #[.slice pa ax.length ca, .slice qa ay.length da] w (Gives w (.bool (ax == ay))) := by
  have HA := Lib.hid h3; have HA' := Lib.hid h6; have HX2 := Lib.hid hx; have HY2 := Lib.hid hy
  unfold maxLen at h2 h5
  clear h3 h6 hx hy
  by_cases hla : ax.length = ay.length
  rotate_left 1
  · have hne : ((ax.length : Int) != (ay.length : Int)) = true := by simp; omega
    have HR := Lib.hid (show (ax == ay) = false by (rw [beq_eq_false_iff_ne]; intro e; exact hla (by rw [e])))
    go_enter Tryz.func68, Tryz.ntmps68
    go_wp2_with fail
    go_ret
    exact ⟨by rw [HR.out]; rfl, Below.refl _ _⟩
  have hne : ((ax.length : Int) != (ay.length : Int)) = false := by simp [hla]
  have HLA := Lib.hid hla
  have hla' : ax.length ≤ ay.length := by omega
  clear hla
  go_enter Tryz.func68, Tryz.ntmps68
  go_wp2_with fail
  clear hne
  go_loopw [13] (fun i wr => ∃ j : Nat, j ≤ ax.length ∧ i = .int .i64 j ∧ ax.take j = ay.take j ∧ Below w.heap.size w wr) (fun i _ => ax.length - (intOf i).toNat)
  case atStart => exact ⟨0, by omega, rfl, rfl, Below.refl _ _⟩
  case round =>
    obtain ⟨j, hj, rfl, heq, hbw⟩ := hrel
    by_cases hlt : j < ax.length
    · have hlt2 : j < ay.length := by omega
      obtain ⟨e1, o1, x0, x1, rfl, hgx, hx0, hx1⟩ := at_1 HA.out HX2.out hlt
      obtain ⟨e2, o2, y0, y1, rfl, hgy, hy0, hy1⟩ := at_1 HA'.out HY2.out hlt2
      have GX := Lib.hid hgx; have GY := Lib.hid hgy; have HEQ := Lib.hid heq
      clear hgx hgy heq
      have hx0 := Below.keeps hbw _ _ hx0
      have hy0 := Below.keeps hbw _ _ hy0
      have hx1 := Below.keeps hbw _ _ hx1
      have hy1 := Below.keeps hbw _ _ hy1
      have ne := fun w => pneqAttr x0 x1 y0 y1 w
      have hlt' : (j : Int) < (ax.length : Int) := by omega
      have hlt2' : (j : Int) < (ay.length : Int) := by omega
      cases hE : ((x0 == y0) && (x1 == y1))
      all_goals
        (first | simp only [hE, Bool.not_false] at ne | simp only [hE, Bool.not_true] at ne)
        have HE := Lib.hid hE
        clear hE
        go_wp2_with fail
        refine wp_phi (fun w' => (w'.cell? ⟨e1, o1 + j * 2, none⟩ = some (.string (bs x0))) ∧ (w'.cell? ⟨e1, o1 + j * 2 + 1, none⟩ = some (.string (bs x1))) ∧ (w'.cell? ⟨e2, o2 + j * 2, none⟩ = some (.string (bs y0))) ∧ (w'.cell? ⟨e2, o2 + j * 2 + 1, none⟩ = some (.string (bs y1))) ∧ Below w.heap.size w w') [] [] (by kernel_rfl) (by kernel_rfl) ?_ ?_ ⟨hx0, hx1, hy0, hy1, (hbw).drew⟩ ?_
        · rintro w1' w2' ⟨gx0, gx1, gy0, gy1, hIB⟩ hb
          exact ⟨(by first | exact gx0.below hb | exact gx0.keep (Below.keeps hb) | exact Below.keeps hb _ _ gx0 | exact Blk.below gx0 hb (Blk.lt gx0)), (by first | exact gx1.below hb | exact gx1.keep (Below.keeps hb) | exact Below.keeps hb _ _ gx1 | exact Blk.below gx1 hb (Blk.lt gx1)), (by first | exact gy0.below hb | exact gy0.keep (Below.keeps hb) | exact Below.keeps hb _ _ gy0 | exact Blk.below gy0 hb (Blk.lt gy0)), (by first | exact gy1.below hb | exact gy1.keep (Below.keeps hb) | exact Below.keeps hb _ _ gy1 | exact Blk.below gy1 hb (Blk.lt gy1)), hIB.trans (hb.mono hIB.size)⟩
        · intro p hp; cases hp
        repeat (first | (refine phi_skipK rfl (fun K hK => ?_); simp only [Act.put, List.setIfInBounds_toArray, List.set_cons_succ, List.set_cons_zero]; (try simp only [List.cons_append]); (try simp only [List.nil_append]); apply hK; clear hK K) | (refine phi_pureK rfl rfl (fun K hK => ?_); apply Exists.intro; constructor; (focus (rintro w' ⟨gx0, gx1, gy0, gy1, hIB⟩; clear hIB; first | (go_simp; done) | (go_simp; (try go_bits); (try go_simp); rfl) | go_simp)); simp only [Act.put, List.setIfInBounds_toArray, List.set_cons_succ, List.set_cons_zero]; (try simp only [List.cons_append]); (try simp only [List.nil_append]); apply hK; clear hK K))
        refine phi_done ?_
        rintro w2 ⟨gx0, gx1, gy0, gy1, hbw2⟩ _
        refine wpList_nil ?_
        clear hx0 hy0 gx0 gy0 hx1 hy1 gx1 gy1 ne hbw
      · have HR := Lib.hid (show (ax == ay) = false by
          rw [beq_eq_false_iff_ne]
          intro e
          subst e
          have e3 := GX.out.symm.trans GY.out
          have e4 := HE.out
          simp only [List.cons.injEq, and_true] at e3
          simp [e3] at e4)
        go_wp2_with fail
        go_ret
        exact ⟨by rw [HR.out]; rfl, hbw2⟩
      · go_wp2_with fail
        go_roundw
        case rel => exact ⟨j + 1, by omega, by go_num, take_step hlt hlt2 HEQ.out (by rw [GX.out, GY.out]; have := HE.out; simp only [Bool.and_eq_true, beq_iff_eq] at this; simp [this]), hbw2⟩
        case measure => simp [intOf]; omega
    · obtain rfl : j = ax.length := by omega
      have HEQ := Lib.hid (show (ax == ay) = true by
        rw [List.take_of_length_le (Nat.le_refl _), HLA.out, List.take_of_length_le (Nat.le_refl _)] at heq
        rw [heq]; simp)
      clear heq
      go_wp2_with fail
      go_ret
      exact ⟨by rw [HEQ.out]; rfl, hbw⟩
set_option maxRecDepth 20000 in
set_option maxHeartbeats 2000000 in
theorem equalfunc_any (pk qk : Option Addr) (ck dk : Nat) (kx ky : List Tr) (P Q : Nat → Prop) (css dss : List (List Value)) (w : World) (hx : Tr.okL 1 kx) (hy : Tr.okL 1 ky) (_h1 : kx.length ≤ ck) (h2 : ck ≤ maxLen) (h3 : Rd w pk css.flatten) (h4 : ky.length ≤ dk) (h5 : dk ≤ maxLen) (h6 : Rd w qk dss.flatten) (hL : TrL w P kx css) (hM : TrL w Q ky dss)
    (hf : ∀ (i : Nat) (hi : i < kx.length) (hi' : i < ky.length) (w' : World) (cx cy : List Value), TrC w' P kx[i] cx → TrC w' Q ky[i] cy → Calls Tryz.prog 29 #[.agg cx.toArray, .agg cy.toArray] w' (Gives w' (.bool (kx[i].eqb ky[i])))) :
    Calls Tryz.prog 69 #[.slice pk kx.length ck, .slice qk ky.length dk, .func (.func 29) #[] #[]] w (Gives w (.bool (Tr.eqbL kx ky))) := by
  have hcf := fun w => (show (callFunc 29 #[]).run Tryz.prog w = .ok (.enter 29 #[]) w from by kernel_rfl)
  have HK := Lib.hid h3; have HK' := Lib.hid h6; have HX3 := Lib.hid hx; have HY3 := Lib.hid hy; have HL := Lib.hid hL; have HL' := Lib.hid hM; have HF := Lib.hid hf
  unfold maxLen at h2 h5
  clear h3 h6 hx hy hL hM hf
  by_cases hlk : kx.length = ky.length
  rotate_left 1
  · have hne : ((kx.length : Int) != (ky.length : Int)) = true := by simp; omega
    have HR := Lib.hid (Tr.eqbL_len hlk)
    go_enter Tryz.func69, Tryz.ntmps69
    go_wp2_with fail
    go_ret
    exact ⟨by rw [HR.out]; rfl, Below.refl _ _⟩
  have hne : ((kx.length : Int) != (ky.length : Int)) = false := by simp [hlk]
  have HLK := Lib.hid hlk
  have hlk' : kx.length ≤ ky.length := by omega
  clear hlk
  go_enter Tryz.func69, Tryz.ntmps69
  go_wp2_with fail
  clear hne
  go_loopw [17] (fun i wr => ∃ j : Nat, j ≤ kx.length ∧ i = .int .i64 j ∧ Tr.eqbL kx ky = Tr.eqbL (kx.drop j) (ky.drop j) ∧ Below w.heap.size w wr) (fun i _ => kx.length - (intOf i).toNat)
  case atStart => exact ⟨0, by omega, rfl, rfl, Below.refl _ _⟩
  case round =>
    obtain ⟨j, hj, rfl, heq, hbw⟩ := hrel
    by_cases hlt : j < kx.length
    · have hlt2 : j < ky.length := by omega
      obtain ⟨e1, o1, m0, u1, u2, u3, u4, u5, u6, u7, rfl, hgx, hT1, hk0, hk1, hk2, hk3⟩ := kid_1 HK.out HL.out HX3.out hlt
      obtain ⟨e2, o2, l0, v1, v2, v3, v4, v5, v6, v7, rfl, hgy, hT2, hl0, hl1, hl2, hl3⟩ := kid_1 HK'.out HL'.out HY3.out hlt2
      have hr := Tr.eqbL_drop HLK.out hlt
      have HEQ := Lib.hid (heq.trans hr)
      have hbx := hbw.trans ((below_alloc (below_alloc1 wr (.cells #[.string (bs m0), .slice u4 u1.length u5, .slice u6 u2.length u7, .string (bs u3)] 28)) (.cells #[.string (bs l0), .slice v4 v1.length v5, .slice v6 v2.length v7, .string (bs v3)] 28)).mono hbw.size)
      have ihc := Lib.hid (HF.out j hlt hlt2 _ _ _ (hT1.below hbx) (hT2.below hbx))
      have HBX := Lib.hid hbx
      clear heq hgx hgy hr hT1 hT2 hbx
      have hk0 := Below.keeps hbw _ _ hk0
      have hl0 := Below.keeps (below_alloc1 wr (.cells #[.string (bs m0), .slice u4 u1.length u5, .slice u6 u2.length u7, .string (bs u3)] 28)) _ _ (Below.keeps hbw _ _ hl0)
      have hk1 := Below.keeps hbw _ _ hk1
      have hl1 := Below.keeps (below_alloc1 wr (.cells #[.string (bs m0), .slice u4 u1.length u5, .slice u6 u2.length u7, .string (bs u3)] 28)) _ _ (Below.keeps hbw _ _ hl1)
      have hk2 := Below.keeps hbw _ _ hk2
      have hl2 := Below.keeps (below_alloc1 wr (.cells #[.string (bs m0), .slice u4 u1.length u5, .slice u6 u2.length u7, .string (bs u3)] 28)) _ _ (Below.keeps hbw _ _ hl2)
      have hk3 := Below.keeps hbw _ _ hk3
      have hl3 := Below.keeps (below_alloc1 wr (.cells #[.string (bs m0), .slice u4 u1.length u5, .slice u6 u2.length u7, .string (bs u3)] 28)) _ _ (Below.keeps hbw _ _ hl3)
      have nb := (Blk.new wr 28 #[.string (bs m0), .slice u4 u1.length u5, .slice u6 u2.length u7, .string (bs u3)]).alloc (.cells #[.string (bs l0), .slice v4 v1.length v5, .slice v6 v2.length v7, .string (bs v3)] 28)
      have nb2 := Blk.new (wr.alloc (.cells #[.string (bs m0), .slice u4 u1.length u5, .slice u6 u2.length u7, .string (bs u3)] 28)) 28 #[.string (bs l0), .slice v4 v1.length v5, .slice v6 v2.length v7, .string (bs v3)]
      rw [World.size_alloc] at nb2
      have c0 := (nb.cell 0).trans rfl
      have d0 := (nb2.cell 0).trans rfl
      have c1 := (nb.cell 1).trans rfl
      have d1 := (nb2.cell 1).trans rfl
      have c2 := (nb.cell 2).trans rfl
      have d2 := (nb2.cell 2).trans rfl
      have c3 := (nb.cell 3).trans rfl
      have d3 := (nb2.cell 3).trans rfl
      clear nb nb2
      have hlt' : (j : Int) < (kx.length : Int) := by omega
      have hlt2' : (j : Int) < (ky.length : Int) := by omega
      have HBW := Lib.hid hbw
      generalize kx[j] = X at *
      generalize ky[j] = Y at *
      clear hbw
      go_wp2_with fail
      refine ihc.out.mono ?_
      rintro e w2 ⟨rfl, hb2⟩
      have hb3 := HBX.out.trans (hb2.mono HBX.out.size)
      clear hk0 hl0 c0 d0 hk1 hl1 c1 d1 hk2 hl2 c2 d2 hk3 hl3 c3 d3 hb2 ihc
      cases hE : X.eqb Y
      · have HR := Lib.hid (show Tr.eqbL kx ky = false by rw [HEQ.out, hE]; simp)
        go_wp2_with fail
        go_ret
        exact ⟨by rw [HR.out]; rfl, hb3⟩
      · rw [hE] at HEQ
        go_wp2_with fail
        go_roundw
        case rel => exact ⟨j + 1, by omega, by go_num, HEQ.out.trans (Bool.true_and _), hb3⟩
        case measure => simp [intOf]; omega
    · obtain rfl : j = kx.length := by omega
      have HR := Lib.hid (show Tr.eqbL kx ky = true by
        rw [List.drop_of_length_le (Nat.le_refl _), HLK.out, List.drop_of_length_le (Nat.le_refl _)] at heq
        exact heq.trans rfl)
      clear heq
      go_wp2_with fail
      go_ret
      exact ⟨by rw [HR.out]; rfl, hbw⟩
set_option maxRecDepth 20000 in
set_option maxHeartbeats 4000000 in
theorem same_any : ∀ (n : Nat) (x y : Tr) (P Q : Nat → Prop) (cx cy : List Value) (w : World), x.sz ≤ n → x.ok 1 → y.ok 1 → TrC w P x cx → TrC w Q y cy →
    Calls Tryz.prog 29 #[.agg cx.toArray, .agg cy.toArray] w (Gives w (.bool (x.eqb y))) := by
  intro n
  induction n with
  | zero => intro x y P Q cx cy w hs; have := x.sz_pos; omega
  | succ n ih =>
    intro x y P Q cx cy w hs hx hy hcx hcy
    obtain ⟨nx, ax, kx, tx⟩ := x
    obtain ⟨ny, ay, ky, ty⟩ := y
    unfold TrC at hcx hcy
    unfold Tr.ok at hx hy
    obtain ⟨hx1, hx2, hx3⟩ := hx
    obtain ⟨hy1, hy2, hy3⟩ := hy
    obtain ⟨a0, rfl⟩ := one_of hx1
    obtain ⟨b0, rfl⟩ := one_of hy1
    obtain ⟨pa, ca, pk, ck, css, rfl, ⟨A1, A2, A3, -⟩, ⟨K1, K2, K3, -⟩, hL⟩ := hcx
    obtain ⟨qa, da, qk, dk, dss, rfl, ⟨B1, B2, B3, -⟩, ⟨M1, M2, M3, -⟩, hM⟩ := hcy
    show Calls Tryz.prog 29 #[.agg #[.string (bs a0), .slice pa ax.length ca, .slice pk kx.length ck, .string (bs tx)], .agg #[.string (bs b0), .slice qa ay.length da, .slice qk ky.length dk, .string (bs ty)]] w _
    have HB := Lib.hid (below_alloc (below_alloc1 w (.cells #[.string (bs a0), .slice pa ax.length ca, .slice pk kx.length ck, .string (bs tx)] 28)) (.cells #[.string (bs b0), .slice qa ay.length da, .slice qk ky.length dk, .string (bs ty)] 28))
    have HN := Lib.hid ((Blk.new w 28 #[.string (bs a0), .slice pa ax.length ca, .slice pk kx.length ck, .string (bs tx)]).alloc (.cells #[.string (bs b0), .slice qa ay.length da, .slice qk ky.length dk, .string (bs ty)] 28))
    have HM := Lib.hid (show Blk ((w.alloc (.cells #[.string (bs a0), .slice pa ax.length ca, .slice pk kx.length ck, .string (bs tx)] 28)).alloc (.cells #[.string (bs b0), .slice qa ay.length da, .slice qk ky.length dk, .string (bs ty)] 28)) (w.heap.size + 1) 28 #[.string (bs b0), .slice qa ay.length da, .slice qk ky.length dk, .string (bs ty)] from by
      have := Blk.new (w.alloc (.cells #[.string (bs a0), .slice pa ax.length ca, .slice pk kx.length ck, .string (bs tx)] 28)) 28 #[.string (bs b0), .slice qa ay.length da, .slice qk ky.length dk, .string (bs ty)]
      rwa [World.size_alloc] at this)
    have E1 := fun (w' : World) (hb : Below w.heap.size w w') => equal_any pa qa ca da ax ay w' hx2 hy2 A1 A2 (A3.keep (Below.keeps hb)) B1 B2 (B3.keep (Below.keeps hb))
    have hs' : ∀ i (hi : i < kx.length), kx[i].sz ≤ n := fun i hi => by
      have := Tr.sz_kid (.node [a0] ax kx tx) i hi
      simp only [Tr.ks] at this
      omega
    have E2 := fun (w' : World) (hb : Below w.heap.size w w') => equalfunc_any pk qk ck dk kx ky P Q css dss w' hx3 hy3 K1 K2 (K3.keep (Below.keeps hb)) M1 M2 (M3.keep (Below.keeps hb)) (hL.below hb) (hM.below hb)
      (fun i hi hi' w2 c1 c2 h1 h2 => ih kx[i] ky[i] P Q c1 c2 w2 (hs' i hi) (okL_get 1 kx hx3 i hi) (okL_get 1 ky hy3 i hi') h1 h2)
    have HE1 := Lib.hid E1; have HE2 := Lib.hid E2
    clear E1 E2 A1 A2 A3 B1 B2 B3 K1 K2 K3 M1 M2 M3 hL hM hx1 hy1 hx2 hx3 hy2 hy3 ih hs hs'
    have c0 := (HN.out.cell 0).trans rfl
    have c1 := (HN.out.cell 1).trans rfl
    have c2 := (HN.out.cell 2).trans rfl
    have c3 := (HN.out.cell 3).trans rfl
    have d0 := (HM.out.cell 0).trans rfl
    have d1 := (HM.out.cell 1).trans rfl
    have d2 := (HM.out.cell 2).trans rfl
    have d3 := (HM.out.cell 3).trans rfl
    cases hN : (a0 == b0)
    · skip
      have HR := Lib.hid (show Tr.eqb (.node [a0] ax kx tx) (.node [b0] ay ky ty) = false by unfold Tr.eqb; have e : (([a0] : List (List UInt8)) == [b0]) = false := (by simpa using hN); rw [e]; simp)
      go_enter Tryz.func29, Tryz.ntmps29
      go_wp2_with fail
      go_ret
      exact ⟨by rw [HR.out]; rfl, HB.out⟩
    have HNM := Lib.hid hN
    cases hT : (tx == ty)
    · have HR := Lib.hid (show Tr.eqb (.node [a0] ax kx tx) (.node [b0] ay ky ty) = false by unfold Tr.eqb; rw [hT]; simp)
      go_enter Tryz.func29, Tryz.ntmps29
      go_wp2_with fail
      go_ret
      exact ⟨by rw [HR.out]; rfl, HB.out⟩
    have HTT := Lib.hid hT
    go_enter Tryz.func29, Tryz.ntmps29
    go_wp2_with fail
    refine (HE1.out _ HB.out).mono ?_
    rintro e w1 ⟨rfl, hb1⟩
    have hN1 := HN.out.below hb1 HN.out.lt
    have hM1 := HM.out.below hb1 HM.out.lt
    have hbw := HB.out.trans (hb1.mono HB.out.size)
    clear c0 d0 c1 d1 c2 d2 c3 d3 hN hT hb1
    cases hA : (ax == ay)
    · have HR := Lib.hid (show Tr.eqb (.node [a0] ax kx tx) (.node [b0] ay ky ty) = false by unfold Tr.eqb; rw [hA]; simp)
      go_wp2_with fail
      go_ret
      exact ⟨by rw [HR.out]; rfl, hbw⟩
    have HAA := Lib.hid hA
    have k1 := (hN1.cell 2).trans rfl
    have k2 := (hM1.cell 2).trans rfl
    clear hA hN1 hM1
    go_wp2_with fail
    refine (HE2.out _ hbw).mono ?_
    rintro e w2 ⟨rfl, hb2⟩
    have hbw2 := hbw.trans (hb2.mono hbw.size)
    clear k1 k2 hb2
    go_wp2_with fail
    go_ret
    refine ⟨?_, hbw2⟩
    have HR : Tr.eqb (.node [a0] ax kx tx) (.node [b0] ay ky ty) = Tr.eqbL kx ky := by
      have e1 := HNM.out
      have e2 := HTT.out
      have e3 := HAA.out
      simp only [beq_iff_eq] at e1 e2 e3
      unfold Tr.eqb
      simp [e1, e2, e3]
    rw [HR]
    rfl
end Go.Proofs.YtkghpmpmcafhkaaGreatDoor
