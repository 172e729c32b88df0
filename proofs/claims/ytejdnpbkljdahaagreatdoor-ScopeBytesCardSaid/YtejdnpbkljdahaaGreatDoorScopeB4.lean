/-
  ScopeB4: scope.Decode.
-/
import Derived.Test.YtejdnpbkljdahaaGreatDoorScopeB3
namespace Go.Proofs.YtejdnpbkljdahaaGreatDoor
open Go.RowKit Go.Extern.Stop Go.Stop Go.Extern Ieee
attribute [local go_sem] run_store_flt

set_option maxRecDepth 20000 in
set_option maxHeartbeats 4000000 in
theorem decF_any (b : List UInt8) (v : Value) (g : Nat) (w : World) (E : Nat → Addr) (h : IdsG w E) (hc : w.cell? ⟨g, 0, none⟩ = some v) (hy : Byt w v b) :
    Calls Tryz.prog 30 #[.pointer (some ⟨g, 0, none⟩)] w (PanR E (fun v _ => decCE b = 0 ∧ v = ctxV (decCC b)) (fun n => decCE b = n + 1) w) := by
  have HG := Lib.hid (fun w' (hb : Below w.heap.size w w') => h.below hb)
  have HSP := Lib.hid (fun w' (he : Errs w' E) (hy : Byt w' v b) => split_any w' E v b he hy)
  have B := Lib.hid (below_alloc1 w (.cells #[.int .i64 0, .int .i64 0, .int .i64 0, .int .i64 0, .float .f64 0] 26))
  have N := Lib.hid (Blk.new w 26 #[.int .i64 0, .int .i64 0, .int .i64 0, .int .i64 0, .float .f64 0])
  have hc1 := keep_alloc w (.cells #[.int .i64 0, .int .i64 0, .int .i64 0, .int .i64 0, .float .f64 0] 26) _ _ hc
  have HY1 := Lib.hid (hy.keep (keep_alloc w (.cells #[.int .i64 0, .int .i64 0, .int .i64 0, .int .i64 0, .float .f64 0] 26)))
  clear h hy hc
  go_enter Tryz.func30, Tryz.ntmps30
  go_wp2_with fail
  refine (HSP.out _ (HG.out _ B.out).errs HY1.out).mono ?_
  rintro e w2 ⟨v2, rfl, hf, hb⟩
  have B2 := Lib.hid (B.out.trans (hb.mono B.out.size))
  have N2 := Lib.hid (N.out.below hb N.out.lt)
  have HF := Lib.hid hf
  clear hb hc1 hf B N
  cases hE : splitE b with
  | succ n =>
    have hle := splitE_le b
    have HD := Lib.hid (show decCE b = n + 1 by unfold decCE; rw [hE]; rfl)
    have HM := Lib.hid (fun w' => mustF_err w' E n v2)
    have hn : n < 14 := by omega
    clear hE hle
    have hev : ∃ a, errV E (n + 1) = .iface 140 a := ⟨_, rfl⟩
    obtain ⟨a, hev⟩ := hev
    rw [hev] at HM ⊢
    unfold panE at HM
    go_wp2_with fail
    refine (HM.out _).mono ?_
    rintro e w3 ⟨rfl, rfl⟩
    go_wp2_with fail
    exact ⟨rfl, B2.out, .inr ⟨n, hn, HD.out, rfl⟩⟩
  | zero =>
    obtain ⟨hrr, _⟩ := split_ok hE
    have hok := (right_parts hrr).2
    have HRD := Lib.hid (fun w' h (hf : FldL w' v2 (splitL b)) => read_any v2 (splitL b) w' E h hf hok)
    have HDE := Lib.hid (show decCE b = (if (rowCtx (splitL b)).isSome then 0 else 4) ∧ decCC b = (rowCtx (splitL b)).getD ctx0 by unfold decCE decCC; rw [hE]; exact ⟨rfl, rfl⟩)
    obtain ⟨p, c, us, rfl, _⟩ := id HF.out
    rw [errV_zero]
    clear hE hrr hok
    go_wp2_with fail
    refine (mustF_nil _ _ _ _).mono ?_
    rintro e w3 ⟨rfl, rfl⟩
    go_wp2_with fail
    refine (HRD.out _ (HG.out _ B2.out) HF.out).mono ?_
    rintro e w3 ⟨hb3, hm⟩
    have B3 := Lib.hid (B2.out.trans (hb3.mono B2.out.size))
    have N3 := Lib.hid (N2.out.below hb3 N2.out.lt)
    clear hb3 N2 B2
    cases hr : rowCtx (splitL b) with
    | none =>
      rw [hr] at hm
      subst hm
      have HD := Lib.hid (show decCE b = 3 + 1 by rw [HDE.out.1, hr]; rfl)
      clear hr HDE
      unfold panE errAt
      go_wp2_with fail
      exact ⟨rfl, B3.out, .inr ⟨3, by omega, HD.out, rfl⟩⟩
    | some m =>
      rw [hr] at hm
      subst hm
      have HD := Lib.hid (show decCE b = 0 ∧ decCC b = m by rw [HDE.out.1, HDE.out.2, hr]; exact ⟨rfl, rfl⟩)
      clear hr HDE
      unfold ctxV ctxA
      go_wp2_with (refine wpList_store (.tmp 1) (.tmp 7) 26 rfl rfl w.heap.size 0 _ _ #[.int .i64 m.n, .int .i64 m.s, .int .i64 m.o, .int .i64 m.d, .float .f64 m.x] rfl rfl N3.out (by kernel_rfl) (by simp [Value.oneCell']) (by simp) ?_)
      intro w8 hn8 ko8
      have h8 : Blk w8 w.heap.size 26 #[.int .i64 m.n, .int .i64 m.s, .int .i64 m.o, .int .i64 m.d, .float .f64 m.x] := hn8
      have q0 := (h8.cell 0).trans rfl
      have q1 := (h8.cell 1).trans rfl
      have q2 := (h8.cell 2).trans rfl
      have q3 := (h8.cell 3).trans rfl
      have q4 := (h8.cell 4).trans rfl
      have B8 := Lib.hid (B3.out.trans (ko8.below (Nat.le_refl _)))
      clear hn8 ko8 h8
      go_wp2_with fail
      refine bodyPost_ret (v := .agg #[.int .i64 m.n, .int .i64 m.s, .int .i64 m.o, .int .i64 m.d, .float .f64 m.x]) (by simp [results, Tryz.results30, go_sem, q0, q1, q2, q3, q4]) rfl ?_
      exact ⟨B8.out, .inl ⟨_, rfl, HD.out.1, by rw [HD.out.2]; rfl⟩⟩
set_option maxRecDepth 20000 in
set_option maxHeartbeats 4000000 in
theorem decode_any (b : List UInt8) (v : Value) (w : World) (E : Nat → Addr) (h : IdsG w E) (hy : Byt w v b) :
    Calls Tryz.prog 8 #[v] w fun e w' => e = .returned (.tuple #[ctxV (decCC b), errV E (decCE b)]) ∧ Below w.heap.size w w' := by
  have HG := Lib.hid (fun w' (hb : Below w.heap.size w w') => h.below hb)
  have HY0 := Lib.hid hy
  obtain ⟨p, c, rfl, _, _, _⟩ := id hy
  have B := Lib.hid (below_alloc (below_alloc1 w (.cells #[.slice p b.length c] 27)) (.cells #[.int .i64 0, .int .i64 0, .int .i64 0, .int .i64 0, .float .f64 0] 26))
  have X := Lib.hid ((Blk.new w 27 #[.slice p b.length c]).alloc (.cells #[.int .i64 0, .int .i64 0, .int .i64 0, .int .i64 0, .float .f64 0] 26))
  have M := Lib.hid (show Blk ((w.alloc (.cells #[.slice p b.length c] 27)).alloc (.cells #[.int .i64 0, .int .i64 0, .int .i64 0, .int .i64 0, .float .f64 0] 26)) (w.heap.size + 1) 26 #[.int .i64 0, .int .i64 0, .int .i64 0, .int .i64 0, .float .f64 0] from by
    have := Blk.new (w.alloc (.cells #[.slice p b.length c] 27)) 26 #[.int .i64 0, .int .i64 0, .int .i64 0, .int .i64 0, .float .f64 0]
    rwa [World.size_alloc] at this)
  have hmf := @run_makeFunc Tryz.prog
  clear h hy
  have HF := Lib.hid (fun w' h hc hy => decF_any b (.slice p b.length c) w.heap.size w' E h hc hy)
  go_enter Tryz.func8, Tryz.ntmps8
  go_wp2_with fail
  generalize ((w.alloc (.cells #[.slice p b.length c] 27)).alloc (.cells #[.int .i64 0, .int .i64 0, .int .i64 0, .int .i64 0, .float .f64 0] 26)) = w1 at *
  refine (tryC_any w1 E 30 #[.pointer (some ⟨w.heap.size, 0, none⟩)] [] (fun _ v _ => decCE b = 0 ∧ v = ctxV (decCC b)) (fun n _ _ => decCE b = n + 1) (by simp) (fun w2 hb => (HG.out _ (B.out.trans (hb.nil_below.mono B.out.size))).errs) ?_ (fun w => by kernel_rfl) ?_).mono ?_
  · rintro w1 v w2 ⟨_, rfl⟩
    exact ⟨_, _, _, _, _, rfl, rfl, rfl, rfl, rfl, rfl⟩
  · intro w2 hb _
    refine (HF.out w2 (HG.out _ (B.out.trans (hb.mono B.out.size))) ?_ ?_).mono ?_
    · exact ((X.out.below hb X.out.lt).cell 0)
    · exact HY0.out.keep (Below.keeps (B.out.trans (hb.mono B.out.size)))
    · intro e w3 hp
      exact hp.may
  · intro e w2 ht
    obtain ⟨hb2, hor⟩ := TryG.v (fun _ _ _ _ h => h) ht
    have B3 := Lib.hid (B.out.trans (hb2.mono B.out.size))
    have M3 := Lib.hid (M.out.below hb2 M.out.lt)
    clear hb2 ht B M X hmf
    rcases hor with ⟨v, rfl, h0, rfl⟩ | ⟨n, _, hn, rfl⟩
    · have HZ := Lib.hid h0
      clear h0
      generalize hm : decCC b = m at *
      unfold ctxV ctxA
      go_wp2_with (refine wpList_store (.tmp 2) (.tmp 6) 26 rfl rfl (w.heap.size + 1) 0 _ _ #[.int .i64 m.n, .int .i64 m.s, .int .i64 m.o, .int .i64 m.d, .float .f64 m.x] rfl rfl M3.out (by kernel_rfl) (by simp [Value.oneCell']) (by simp) ?_)
      intro w8 hn8 ko8
      have h8 : Blk w8 (w.heap.size + 1) 26 #[.int .i64 m.n, .int .i64 m.s, .int .i64 m.o, .int .i64 m.d, .float .f64 m.x] := hn8
      have q0 := (h8.cell 0).trans rfl
      have q1 := (h8.cell 1).trans rfl
      have q2 := (h8.cell 2).trans rfl
      have q3 := (h8.cell 3).trans rfl
      have q4 := (h8.cell 4).trans rfl
      have B8 := Lib.hid (B3.out.trans (ko8.below (Nat.le_succ _)))
      clear hn8 ko8 h8
      go_wp2_with fail
      refine bodyPost_ret (v := .tuple #[.agg #[.int .i64 m.n, .int .i64 m.s, .int .i64 m.o, .int .i64 m.d, .float .f64 m.x], .nilIface]) (by simp [results, Tryz.results8, go_sem, q0, q1, q2, q3, q4]) rfl ?_
      exact ⟨by rw [HZ.out, hm]; rfl, B8.out⟩
    · have HZ := Lib.hid hn
      clear hn
      unfold errAt
      go_wp2_with (refine wpList_store (.tmp 2) (.tmp 6) 26 rfl rfl (w.heap.size + 1) 0 _ _ #[.int .i64 0, .int .i64 0, .int .i64 0, .int .i64 0, .float .f64 0] rfl rfl M3.out (by kernel_rfl) (by simp [Value.oneCell']) (by simp) ?_)
      intro w8 hn8 ko8
      have h8 : Blk w8 (w.heap.size + 1) 26 #[.int .i64 0, .int .i64 0, .int .i64 0, .int .i64 0, .float .f64 0] := hn8
      have q0 := (h8.cell 0).trans rfl
      have q1 := (h8.cell 1).trans rfl
      have q2 := (h8.cell 2).trans rfl
      have q3 := (h8.cell 3).trans rfl
      have q4 := (h8.cell 4).trans rfl
      have B8 := Lib.hid (B3.out.trans (ko8.below (Nat.le_succ _)))
      clear hn8 ko8 h8
      go_wp2_with fail
      refine bodyPost_ret (v := .tuple #[.agg #[.int .i64 0, .int .i64 0, .int .i64 0, .int .i64 0, .float .f64 0], .iface 140 (.pointer (some (E n)))]) (by simp [results, Tryz.results8, go_sem, q0, q1, q2, q3, q4]) rfl ?_
      have HM0 : decCC b = ctx0 := by
        have h9 := HZ.out
        unfold decCE at h9
        unfold decCC
        split at h9
        · rename_i h0
          rw [if_pos h0]
          split at h9
          · cases h9
          · rename_i h1
            cases hr : rowCtx (splitL b) with
            | none => rfl
            | some m => rw [hr] at h1; exact absurd rfl h1
        · rename_i h0
          rw [if_neg h0]
      exact ⟨by rw [HZ.out, HM0]; rfl, B8.out⟩
end Go.Proofs.YtejdnpbkljdahaaGreatDoor
