/-
  XmlRK: package xml's reader: an element's content.
  TryX: catch.Try over the struct liaison/xml.Element.
  XmlRL: package xml: Parse.
  SpP: elements with names in name spaces, plainly. No program.
  XmlRM: package xml: Parse, in all.
-/
import Derived.Test.YtkghpmpmcafhkaaGreatDoorQD
import Derived.Test.YtkghpmpmcafhkaaGreatDoorBA
import Derived.Test.YtkghpmpmcafhkaaGreatDoorPA
import Derived.Lib.ItoaNum
namespace Go.Proofs.YtkghpmpmcafhkaaGreatDoor
open Go.RowKit Go.Extern.Stop Go.Stop Go.Extern
attribute [local go_sem] bs_toList

theorem elem1_info : (Tryz.prog.info? 28).map (fun i => (i.zero, i.size, i.bytes)) = some (some (.agg #[.string ⟨#[]⟩, .slice none 0 0, .slice none 0 0, .string ⟨#[]⟩]), 4, 80) := by kernel_rfl
theorem textK_of (w : World) (P : Nat → Prop) (u : List UInt8) : TrC w P (textK u) [.string ⟨#[]⟩, .slice none 0 0, .slice none 0 0, .string (bs u)] := by
  unfold textK TrC
  exact ⟨none, 0, none, 0, [], rfl, ⟨Nat.le_refl _, by unfold maxLen; omega, .inl rfl, fun a ha => by cases ha⟩, ⟨Nat.le_refl _, by unfold maxLen; omega, .inl rfl, fun a ha => by cases ha⟩, (by unfold TrL; rfl)⟩
theorem upR_self {p : UInt8 → Bool} {s b : List UInt8} (h : upR p s = some ([], b)) : b = s := by
  unfold upR at h
  split at h
  · injection h with h
    injection h with h1 h2
    have := List.takeWhile_append_dropWhile (p := fun c => !p c) (l := s)
    rw [h1, h2, List.nil_append] at this
    exact this
  · cases h
/-- while content is read -/
structure CtS (E : Nat → Addr) (r : Nat) (w : World) (out : List Tr) (v : Value) (css : List (List Value)) (wi : World) : Prop where
  lib : LibX r wi E
  but : But [r] w wi
  own : wi.ownsRow w.heap.size 28 4 v out.length css.flatten
  kids : TrL wi (Bt w.heap.size wi.heap.size v.ownBlock) out css
theorem CtS.next {E : Nat → Addr} {r : Nat} {w : World} {out : List Tr} {v : Value} {css : List (List Value)} {wi wj : World} (h : CtS E r w out v css wi) (hr : r < w.heap.size) (hb : But [r] wi wj) : CtS E r w out v css wj :=
  ⟨h.lib.but hb, h.but.trans hb, rowns_but hb (by intro q hq; rw [List.mem_singleton.1 hq]; exact hr) h.own,
    (trl_but h.kids hb (fun b hp => by have := hp.1; omega)).imp fun b hp => ⟨hp.1, Nat.lt_of_lt_of_le hp.2.1 hb.size, hp.2.2⟩⟩
/-- one more -/
theorem CtS.more {E : Nat → Addr} {r : Nat} {w : World} {out : List Tr} {v v' : Value} {css : List (List Value)} {x : Tr} {cs : List Value} {w1 w2 : World} {B0 : Nat} (hx : LibX r w E) (h : CtS E r w out v css w1) (_hB0 : B0 ≤ w1.heap.size) (hw : w.heap.size ≤ B0) (hv0 : ∀ b, v.ownBlock = some b → b < B0)
    (hk : TrC w1 (Bt B0 w1.heap.size none) x cs) (ho : w2.ownsRow w.heap.size 28 4 v' (out.length + 1) (css.flatten ++ cs)) (hg : w1.grownBy w2 v.ownBlock) (hat : v'.ownBlock = v.ownBlock ∨ v'.ownBlock = some w1.heap.size) :
    CtS E r w (out ++ [x]) v' (css ++ [cs]) w2 := by
  have hb := h.but.grow hg fun b hb => (h.own.lt b hb).1
  have hsz := hg.size
  refine ⟨hx.but hb, hb, by rw [List.length_append, flat_snoc]; exact ho, TrL.app ?_ (TrL.one ?_)⟩
  · refine (h.kids.grown hg fun b hb => hb.2.2).imp fun b hb => ⟨hb.1, by have := hb.2.1; omega, ?_⟩
    rcases hat with e | e
    · rw [e]; exact hb.2.2
    · rw [e]; intro e; cases e; have := hb.2.1; omega
  · refine (hk.grown hg fun b hb e => by have := hv0 b e; have := hb.1; omega).imp fun b hb => ⟨by have := hb.1; omega, by have := hb.2.1; omega, ?_⟩
    rcases hat with e | e
    · rw [e]; intro e; have := hv0 b e; have := hb.1; omega
    · rw [e]; intro e; cases e; have := hb.2.1; omega
set_option maxRecDepth 20000 in
set_option maxHeartbeats 8000000 in
theorem cont_of (n : Nat) (hel : ∀ m, m < n → ElemC m) : ContC n := by
  intro E r d s0 w hx hr hs0 hd hn
  obtain ⟨O, hO⟩ : ∃ O, contP n d [] s0 = O := ⟨_, rfl⟩
  rw [hO]
  obtain ⟨i9, hi9, hy0, hy1, hy2⟩ := info_parts elem1_info
  have HEL := Lib.hid hel
  have HLX := Lib.hid hx
  have HR := Lib.hid hr
  have HO := Lib.hid hO
  have hrw := hr.lt
  clear hel hx hr hO
  go_enter Tryz.func108, Tryz.ntmps108
  go_wp2_with fail
  go_loopw [3] (fun v wr => ∃ (s : List UInt8) (out : List Tr) (css : List (List Value)) (m : Nat), CtS E r w out v css wr ∧ Rr wr r s (d : Int) ∧ contP m d out s = O ∧ m ≤ n ∧ 2 * s.length + 3 ≤ m ∧ out.length + s.length ≤ 20000) (fun _ wr => match wr.cell? ⟨r, 0, none⟩ with | some (.string b) => b.size | _ => 0)
  case atStart => exact ⟨s0, [], [], n, ⟨HLX.out, But.of_below (Below.refl _ _), ⟨rfl, .inl ⟨rfl, rfl⟩⟩, (by unfold TrL; rfl)⟩, HR.out, HO.out, Nat.le_refl _, hn, by simpa using hs0⟩
  case round =>
    clear HR HO
    obtain ⟨s, out, css, m, hS, hr, hO, hmn, hms, hlen⟩ := hrel
    obtain ⟨m, rfl⟩ : ∃ k, m = k + 1 := ⟨m - 1, by omega⟩
    have hrc : wr.cell? ⟨r, 0, none⟩ = some (.string (bs s)) := (hr.cell 0).trans rfl
    have HRC := Lib.hid hrc
    have S := Lib.hid hS
    have HR := Lib.hid hr
    unfold contP at hO
    have HPF := Lib.hid (Tryz.strings_HasPrefix (bs s) ⟨#[60, 47]⟩ wr)
    rw [show (bs s).data.toList = s by simp [bs], show (⟨#[60, 47]⟩ : ByteArray).data.toList = [60, 47] from rfl] at HPF
    have hcut := cutR_has [60, 47] s
    clear hS hr
    cases hp : Lib.hasPrefix s [60, 47] with
    | true =>
      rw [hp, if_pos rfl] at hcut
      rw [hp] at HPF
      rw [hcut] at hO
      obtain rfl : O = .ok (out, s) := hO.symm
      clear hcut hp
      go_wp2_with (go_at_call 107; refine HPF.out.mono ?_; rintro e w2 ⟨rfl, rfl⟩)
      go_ret
      exact ⟨S.out.but, ⟨_, css, rfl, S.out.own, S.out.kids⟩, HR.out⟩
    | false =>
      rw [hp, if_neg (by simp)] at hcut
      rw [hp] at HPF
      rw [hcut] at hO
      dsimp only at hO
      have HOO := Lib.hid hO
      clear hcut hp hO hrc
      have c0 := (HR.out.cell 0).trans rfl
      go_wp2_with (go_at_call 107; refine HPF.out.mono ?_; rintro e w2 ⟨rfl, rfl⟩)
      have hO := HOO.out
      clear HOO HPF c0
      cases hu : upR (fun c => c == 60) s with
      | none =>
        rw [hu] at hO
        obtain rfl : O = .error 3 := hO.symm
        refine (rupto_n (fun c => c == 60) ⟨#[60]⟩ _ E S.out.lib.errs HR.out (idx_lt s) hu).mono ?_
        rintro e w3 ⟨rfl, hb⟩
        exact ⟨rfl, S.out.but.trans (But.of_below hb), rfl, _, _, HR.out.below hb HR.out.lt⟩
      | some p =>
        obtain ⟨t, s1⟩ := p
        have hul := upR_len hu
        rw [hu] at hO
        refine (rupto_y (fun c => c == 60) ⟨#[60]⟩ _ HR.out (idx_lt s) hu).mono ?_
        rintro e w3 ⟨rfl, hr, hb⟩
        have S3 := Lib.hid (S.out.next hrw hb)
        have HR3 := Lib.hid hr
        cases t with
        | nil =>
          obtain rfl := upR_self hu
          dsimp only at hO
          have HOO := Lib.hid hO
          have hi : (bs []).toList.isEmpty = true := by rw [bs_toList]; rfl
          clear hr hb S HR hu hO
          go_wp2_with fail
          have hO := HOO.out
          clear HOO hi
          refine (HEL.out m (by omega) E r d s1 w3 S3.out.lib HR3.out (by omega) hd (by omega)).mono ?_
          rintro e w4 ⟨hb4, he⟩
          cases hel : elemP m d s1 with
          | error k =>
            rw [hel] at hO he
            obtain rfl : O = .error k := hO.symm
            obtain ⟨rfl, s', d', hr'⟩ := he
            exact ⟨rfl, S3.out.but.trans hb4, rfl, s', d', hr'⟩
          | ok q =>
            obtain ⟨x, s2⟩ := q
            have hl2 := elemP_len hel
            rw [hel] at hO he
            dsimp only at hO
            obtain ⟨⟨t0, p1, n1, c1, p2, n2, c2, t3, rfl, htr⟩, hr4⟩ := he
            have S4 := Lib.hid (S3.out.next hrw hb4)
            have HR4 := Lib.hid hr4
            have HO4 := Lib.hid hO
            have hba' := below_alloc1 w4 (.cells #[.string t0, .slice p1 n1 c1, .slice p2 n2 c2, .string t3] 28)
            clear hO hr4 hel
            have hba := below_alloc1 w4 (.cells #[.string t0, .slice p1 n1 c1, .slice p2 n2 c2, .string t3] 28)
            have S5 := Lib.hid (S4.out.next hrw (But.of_below hba))
            have HR5 := Lib.hid (HR4.out.alloc (.cells #[.string t0, .slice p1 n1 c1, .slice p2 n2 c2, .string t3] 28))
            have HT5 := Lib.hid (show TrC (w4.alloc (.cells #[.string t0, .slice p1 n1 c1, .slice p2 n2 c2, .string t3] 28)) (Bt w3.heap.size (w4.alloc (.cells #[.string t0, .slice p1 n1 c1, .slice p2 n2 c2, .string t3] 28)).heap.size none) x [.string t0, .slice p1 n1 c1, .slice p2 n2 c2, .string t3] from (htr.below hba).imp fun b hb => ⟨hb.1, Nat.lt_of_lt_of_le hb.2.1 hba.size, hb.2.2⟩)
            have hs5 : w.heap.size ≤ (w4.alloc (.cells #[.string t0, .slice p1 n1 c1, .slice p2 n2 c2, .string t3] 28)).heap.size := S5.out.but.size
            clear hba
            go_wp2_with (at_builtin; refine wpList_appAt (.tmp 21) (.tmp 24) 26 rfl rfl w.heap.size 28 i9 (.agg #[.string ⟨#[]⟩, .slice none 0 0, .slice none 0 0, .string ⟨#[]⟩]) 4 80 Tryz.underlying26 hi9 hy0 hy1 hy2 rfl (by decide) _ _ _ rfl S5.out.own _ _ _ [.string t0, .slice p1 n1 c1, .slice p2 n2 c2, .string t3] rfl rfl (rd_at _ #[_, _, _, _] _ _ _ (by simp)) ?b1 ?b2 ?b3 hs5 ?_)
            case b1 => simp [Value.oneCell']
            case b2 => unfold maxLen; omega
            case b3 => omega
            intro v6 w6 ho6 hg6 hat6
            have hlo := S5.out.own.lt
            have S6 := Lib.hid (S5.out.more HLX.out (B0 := w3.heap.size) (by have := hb4.size; have := hba'.size; omega) (S3.out.but.size) (fun b hb => (S3.out.own.lt b hb).2) HT5.out ho6 hg6 (by rw [World.size_alloc]; exact hat6))
            have hr6 : Rr w6 r s2 (d : Int) := (hg6.block r HR5.out.lt fun e => by have := (hlo r e.symm).1; omega).trans HR5.out
            have HR6 := Lib.hid hr6
            have HRC6 := Lib.hid (show w6.cell? ⟨r, 0, none⟩ = some (.string (bs s2)) from (hr6.cell 0).trans rfl)
            clear ho6 hg6 hat6 hlo hr6
            go_wp2_with fail
            go_roundw
            case rel => exact ⟨s2, out ++ [x], css ++ [[.string t0, .slice p1 n1 c1, .slice p2 n2 c2, .string t3]], m, S6.out, HR6.out, HO4.out, by omega, by omega, by rw [List.length_append, List.length_singleton]; omega⟩
            case measure =>
              rw [HRC6.out, HRC.out]
              simp only [bs_size]
              omega
        | cons c t =>
          have hi : (bs (c :: t)).toList.isEmpty = false := by rw [bs_toList]; rfl
          have HTX := Lib.hid (rtxt_any (c :: t) (by omega) w3 E S3.out.lib.lib S3.out.lib.errs)
          have HOO := Lib.hid (show (match textD (c :: t) with | none => .error 3 | some u => contP m d (out ++ [textK u]) s1) = O from hO)
          rw [List.length_cons] at hul
          clear hr hb S HR hu hO
          go_wp2_with fail
          have hO := HOO.out
          clear HOO hi
          refine HTX.out.mono ?_
          rintro e w4 ⟨hb4, he⟩
          cases htx : textD (c :: t) with
          | none =>
            rw [htx] at hO he
            obtain rfl : O = .error 3 := hO.symm
            obtain rfl : e = .panicked (panE E 3) := he
            exact ⟨rfl, S3.out.but.trans (But.of_below hb4), rfl, _, _, HR3.out.below hb4 HR3.out.lt⟩
          | some u =>
            rw [htx] at hO he
            dsimp only at hO
            obtain rfl : e = .returned (.string (bs u)) := he
            have S4 := Lib.hid (S3.out.next hrw (But.of_below hb4))
            have HR4 := Lib.hid (HR3.out.below hb4 HR3.out.lt)
            have HO4 := Lib.hid hO
            clear hO htx HTX
            have hba := below_alloc1 w4 (.cells #[.string ⟨#[]⟩, .slice none 0 0, .slice none 0 0, .string (bs u)] 28)
            have S5 := Lib.hid (S4.out.next hrw (But.of_below hba))
            have HR5 := Lib.hid (HR4.out.alloc (.cells #[.string ⟨#[]⟩, .slice none 0 0, .slice none 0 0, .string (bs u)] 28))
            have HT5 := Lib.hid (textK_of (w4.alloc (.cells #[.string ⟨#[]⟩, .slice none 0 0, .slice none 0 0, .string (bs u)] 28)) (Bt (w4.alloc (.cells #[.string ⟨#[]⟩, .slice none 0 0, .slice none 0 0, .string (bs u)] 28)).heap.size (w4.alloc (.cells #[.string ⟨#[]⟩, .slice none 0 0, .slice none 0 0, .string (bs u)] 28)).heap.size none) u)
            have hs5 : w.heap.size ≤ (w4.alloc (.cells #[.string ⟨#[]⟩, .slice none 0 0, .slice none 0 0, .string (bs u)] 28)).heap.size := S5.out.but.size
            clear hba
            go_wp2_with (at_builtin; refine wpList_appAt (.tmp 15) (.tmp 19) 26 rfl rfl w.heap.size 28 i9 (.agg #[.string ⟨#[]⟩, .slice none 0 0, .slice none 0 0, .string ⟨#[]⟩]) 4 80 Tryz.underlying26 hi9 hy0 hy1 hy2 rfl (by decide) _ _ _ rfl S5.out.own _ _ _ [.string ⟨#[]⟩, .slice none 0 0, .slice none 0 0, .string (bs u)] rfl rfl (rd_at _ #[_, _, _, _] _ _ _ (by simp)) ?b1 ?b2 ?b3 hs5 ?_)
            case b1 => simp [Value.oneCell']
            case b2 => unfold maxLen; omega
            case b3 => omega
            intro v6 w6 ho6 hg6 hat6
            have hlo := S5.out.own.lt
            have S6 := Lib.hid (S5.out.more HLX.out (B0 := (w4.alloc (.cells #[.string ⟨#[]⟩, .slice none 0 0, .slice none 0 0, .string (bs u)] 28)).heap.size) (Nat.le_refl _) hs5 (fun b hb => (S5.out.own.lt b hb).2) HT5.out ho6 hg6 (by rw [World.size_alloc]; exact hat6))
            have hr6 : Rr w6 r s1 (d : Int) := (hg6.block r HR5.out.lt fun e => by have := (hlo r e.symm).1; omega).trans HR5.out
            have HR6 := Lib.hid hr6
            have HRC6 := Lib.hid (show w6.cell? ⟨r, 0, none⟩ = some (.string (bs s1)) from (hr6.cell 0).trans rfl)
            clear ho6 hg6 hat6 hlo hr6
            go_wp2_with fail
            go_roundw
            case rel => exact ⟨s1, out ++ [textK u], css ++ [[.string ⟨#[]⟩, .slice none 0 0, .slice none 0 0, .string (bs u)]], m, S6.out, HR6.out, HO4.out, by omega, by omega, by rw [List.length_append, List.length_singleton]; omega⟩
            case measure =>
              rw [HRC6.out, HRC.out]
              simp only [bs_size]
              omega
end Go.Proofs.YtkghpmpmcafhkaaGreatDoor

namespace Go.Proofs.YtkghpmpmcafhkaaGreatDoor
open Go.RowKit Go.Extern.Stop Go.Stop Go.Extern

/-- nothing panicked: the deferred closure turns nothing -/
theorem tryX_idle (d x r : Nat) (w : World) (hd : w.cell? ⟨d, 0, none⟩ = some (.bool true)) :
    CallsD Tryz.prog 86 #[.pointer (some ⟨d, 0, none⟩), .pointer (some ⟨x, 0, none⟩), .pointer (some ⟨r, 0, none⟩)] .returning w fun e u' w' => e = .returned (.tuple #[]) ∧ u' = .returning ∧ w' = w := by
  refine callsD_of_wpS Tryz.func86 rfl fun c₀ cs hu => ?_
  apply wpS_seq
  apply wpS_region
  simp [wpOpsS, go_sem, recoverD, hu, Tryz.ntmps86, Exit.thenS]
  refine wpS_of_wp ?_
  have e : (#[Value.pointer (some ⟨d, 0, none⟩), .pointer (some ⟨x, 0, none⟩), .pointer (some ⟨r, 0, none⟩)] ++ ((Array.replicate 8 undef).setIfInBounds 2 Value.nilIface).setIfInBounds 0 Value.nilIface) =
      #[Value.pointer (some ⟨d, 0, none⟩), .pointer (some ⟨x, 0, none⟩), .pointer (some ⟨r, 0, none⟩), .nilIface, undef, .nilIface, undef, undef, undef, undef, undef] := rfl
  rw [e]
  clear e
  go_wp2_with fail
  cases c₀
  simp_all [bodyPostS, results, Tryz.results86]
/-- what panicked is the result, told -/
theorem tryX_err (d x r : Nat) (w : World) (E : Nat → Addr) (u : Value) (n : Nat) (older : List PanicEntry) (hu0 : ∃ T x, u = .iface T x) (ht : Tells w u E n) (he : Errs w E) (hd : w.cell? ⟨d, 0, none⟩ = some (.bool false))
    (hx : Blk w x 28 #[.string ⟨#[]⟩, .slice none 0 0, .slice none 0 0, .string ⟨#[]⟩]) (hr : Blk w r 37 #[.nilIface]) (hxr : x ≠ r) :
    CallsD Tryz.prog 86 #[.pointer (some ⟨d, 0, none⟩), .pointer (some ⟨x, 0, none⟩), .pointer (some ⟨r, 0, none⟩)] (.panicking ({ v := u, recovered := false } :: older)) w fun e u' w' =>
      e = .returned (.tuple #[]) ∧ u' = .panicking ({ v := u, recovered := true } :: older) ∧ Blk w' x 28 #[.string ⟨#[]⟩, .slice none 0 0, .slice none 0 0, .string ⟨#[]⟩] ∧ Blk w' r 37 #[errAt (E n)] ∧ But [x, r] w w' := by
  unfold errAt at *
  obtain ⟨T, x0, rfl⟩ := hu0
  refine callsD_of_wpS Tryz.func86 rfl fun c₀ cs hu => ?_
  apply wpS_seq
  apply wpS_region
  simp [wpOpsS, go_sem, recoverD, hu, Tryz.ntmps86, Exit.thenS]
  refine wpS_of_wp ?_
  have e : (#[Value.pointer (some ⟨d, 0, none⟩), .pointer (some ⟨x, 0, none⟩), .pointer (some ⟨r, 0, none⟩)] ++ ((Array.replicate 8 undef).setIfInBounds 2 (Value.iface T x0)).setIfInBounds 0 (Value.iface T x0)) =
      #[Value.pointer (some ⟨d, 0, none⟩), .pointer (some ⟨x, 0, none⟩), .pointer (some ⟨r, 0, none⟩), .iface T x0, undef, .iface T x0, undef, undef, undef, undef, undef] := rfl
  rw [e]
  have HX := Lib.hid hx
  have HR := Lib.hid hr
  have HT := Lib.hid ht
  have HE := Lib.hid he
  have HB0 := Lib.hid (below_alloc1 w (.cells #[.string ⟨#[]⟩, .slice none 0 0, .slice none 0 0, .string ⟨#[]⟩] 28))
  have HN0 := Lib.hid (Blk.new w 28 #[.string ⟨#[]⟩, .slice none 0 0, .slice none 0 0, .string ⟨#[]⟩])
  clear e he hx hr ht
  go_wp2_with fail
  generalize w.alloc (.cells #[.string ⟨#[]⟩, .slice none 0 0, .slice none 0 0, .string ⟨#[]⟩] 28) = w0 at *
  refine wp_phi_tail (List.take 3 _) (List.drop 3 _) (List.take_append_drop 3 _).symm (fun w' => Below w.heap.size w w' ∧ Blk w' w.heap.size 28 #[.string ⟨#[]⟩, .slice none 0 0, .slice none 0 0, .string ⟨#[]⟩]) [(2, PVal (.iface 244 (.pointer (some (E n)))))] [] (by kernel_rfl) (by kernel_rfl) ?_ ?_ ⟨HB0.out.drew, HN0.out⟩ ?_
  · rintro w1' w2' ⟨h1, h2⟩ hb
    exact ⟨h1.trans (hb.mono h1.size), h2.below hb h2.lt⟩
  · simp only [List.mem_singleton, forall_eq]
    exact fun _ _ _ _ _ h => h
  simp only [List.take_succ_cons, List.take_zero, List.drop_succ_cons, List.drop_zero]
  repeat (first | (refine phi_skipK rfl (fun K hK => ?_); simp only [Act.put, List.setIfInBounds_toArray, List.set_cons_succ, List.set_cons_zero]; (try simp only [List.cons_append]); (try simp only [List.nil_append]); apply hK; clear hK K) | (refine phi_pureK rfl rfl (fun K hK => ?_); apply Exists.intro; constructor; (focus (rintro w' ⟨h1, h2⟩; (have c0 := (h2.cell 0).trans rfl; have c1 := (h2.cell 1).trans rfl; have c2 := (h2.cell 2).trans rfl; have c3 := (h2.cell 3).trans rfl); first | (go_simp; done) | (go_simp; (try go_bits); (try go_simp); rfl) | go_simp)); simp only [Act.put, List.setIfInBounds_toArray, List.set_cons_succ, List.set_cons_zero]; (try simp only [List.cons_append]); (try simp only [List.nil_append]); apply hK; clear hK K))
  refine phi_partK (PVal (.iface 244 (.pointer (some (E n))))) rfl rfl ⟨_, rfl⟩ ?_ (fun K hK v hv => ?_)
  · rintro w' ⟨h1, h2⟩ _
    unfold gives
    go_simp
    refine (HT.out w' h1 (HE.out.below h1)).mono ?_
    rintro e w'' ⟨rfl, hb⟩
    exact ⟨_, rfl, rfl, trivial, hb⟩
  obtain rfl : v = _ := hv
  simp only [Act.put, List.setIfInBounds_toArray, List.set_cons_succ, List.set_cons_zero]; (try simp only [List.cons_append]); (try simp only [List.nil_append])
  apply hK
  clear hK K
  refine phi_done ?_
  rintro w1 ⟨h1, h2⟩ _
  have hx1 := HX.out.below h1 HX.out.lt
  have hr1 := HR.out.below h1 HR.out.lt
  have HR1 := Lib.hid hr1
  have HB1 := Lib.hid h1
  have cr := (hr1.cell 0).trans rfl
  have fr := hr1.frozen 0
  clear h1 h2 hr1 HT
  refine wpList_store (.tmp 1) (.tmp 8) 28 rfl rfl x 0 _ _ #[.string ⟨#[]⟩, .slice none 0 0, .slice none 0 0, .string ⟨#[]⟩] rfl rfl hx1 (by kernel_rfl) (by simp [Value.oneCell']) (by simp) ?_
  intro w2 hx2 ho2
  rw [putCells_all #[.string ⟨#[]⟩, .slice none 0 0, .slice none 0 0, .string ⟨#[]⟩] #[.string ⟨#[]⟩, .slice none 0 0, .slice none 0 0, .string ⟨#[]⟩] rfl] at hx2
  have hr2 := ho2.blk HR1.out (fun e => hxr e.symm)
  have cr2 := (hr2.cell 0).trans rfl
  have fr2 := hr2.frozen 0
  have HX2 := Lib.hid hx2
  have HR2 := Lib.hid hr2
  have HO2 := Lib.hid ho2
  clear hx2 hr2 ho2 hx1 cr fr
  go_wp2_with fail
  cases c₀
  simp only [bodyPostS, results, Tryz.results86]
  exact ⟨trivial, _, rfl, .tuple #[], by simp, rfl, rfl, HX2.out.far hxr 0 _, HR2.out.set_ 0 _, (((But.of_below HB1.out).only HO2.out (by simp)).set_ r 0 _ (by simp))⟩
theorem tryX_any (w : World) (E : Nat → Addr) (f : FuncId) (caps : Array Value) (S : List Nat) (R : World → Value → World → Prop) (Q : Nat → World → World → Prop) (hSl : ∀ s ∈ S, s < w.heap.size) (he : ∀ w', But S w w' → Errs w' E) (hRs : ∀ w1 v w2, R w1 v w2 → ∃ v0 v1 v2 v3 : Value, v = .agg #[v0, v1, v2, v3] ∧ v0.oneCell' = true ∧ v1.oneCell' = true ∧ v2.oneCell' = true ∧ v3.oneCell' = true) (hcf : ∀ w, (callFunc f caps).run Tryz.prog w = .ok (.enter f caps) w)
    (hdo : ∀ w1, Below w.heap.size w w1 → w1.heap.size = w.heap.size + 3 → Calls Tryz.prog f caps w1 fun e w2 => MayG (R w1) (fun n w2 => Q n w1 w2) E e w2 ∧ But S w1 w2) :
    Calls Tryz.prog 43 #[.func (.func f) #[] caps] w (TryG S R Q E (.agg #[.string ⟨#[]⟩, .slice none 0 0, .slice none 0 0, .string ⟨#[]⟩]) w) := by
  have hmf := @run_makeFunc Tryz.prog
  have HE := Lib.hid he
  have HD := Lib.hid hdo
  have HRS := Lib.hid hRs
  have hno : ∀ k, w.heap.size ≤ k → S.contains k = false := fun k hk => by
    rw [Bool.eq_false_iff]
    intro hc
    have := hSl k (List.contains_iff_mem.1 hc)
    omega
  have HNO := Lib.hid hno
  clear he hdo hRs hSl hno
  go_enter_defers Tryz.func43, Tryz.ntmps43
  go_wp2_with fail
  have hb1 : Below w.heap.size w (((w.alloc (.cells #[.string ⟨#[]⟩, .slice none 0 0, .slice none 0 0, .string ⟨#[]⟩] 28)).alloc (.cells #[.nilIface] 37)).alloc (.cells #[.bool false] 4)) := below_alloc (below_alloc (below_alloc1 w _) _) _
  refine (HD.out _ hb1 (by simp)).mono ?_
  rintro e w2 ⟨hm, hb2⟩
  have x1 := hb2.blk (((Blk.new w 28 #[.string ⟨#[]⟩, .slice none 0 0, .slice none 0 0, .string ⟨#[]⟩]).alloc (.cells #[.nilIface] 37)).alloc (.cells #[.bool false] 4)) (HNO.out _ (Nat.le_refl _))
  have r1 := hb2.blk ((Blk.new (w.alloc (.cells #[.string ⟨#[]⟩, .slice none 0 0, .slice none 0 0, .string ⟨#[]⟩] 28)) 37 #[.nilIface]).alloc (.cells #[.bool false] 4)) (HNO.out _ (by simp))
  have d1 := hb2.blk (Blk.new ((w.alloc (.cells #[.string ⟨#[]⟩, .slice none 0 0, .slice none 0 0, .string ⟨#[]⟩] 28)).alloc (.cells #[.nilIface] 37)) 4 #[.bool false]) (HNO.out _ (by simp; omega))
  have hs1 : (((w.alloc (.cells #[.string ⟨#[]⟩, .slice none 0 0, .slice none 0 0, .string ⟨#[]⟩] 28)).alloc (.cells #[.nilIface] 37)).alloc (.cells #[.bool false] 4)).heap.size = w.heap.size + 3 := by simp
  simp only [World.size_alloc] at r1 d1
  have X1 := Lib.hid x1
  have R1 := Lib.hid r1
  have D1 := Lib.hid d1
  have B1 := Lib.hid hb1
  have B2 := Lib.hid hb2
  have S1 := Lib.hid hs1
  rcases hm with ⟨v, rfl, hR⟩ | ⟨u, n, hn, hS, ⟨T, x0, rfl⟩, htells, rfl⟩
  · obtain ⟨v0, v1, v2, v3, rfl, hv1⟩ := HRS.out _ _ _ hR
    have HR := Lib.hid hR
    have HV1 := Lib.hid (show ∀ u ∈ (#[v0, v1, v2, v3] : Array Value).toList, u.oneCell' = true by simpa using hv1)
    clear x1 r1 d1 hb1 hb2 hs1 hR hv1
    generalize (((w.alloc (.cells #[.string ⟨#[]⟩, .slice none 0 0, .slice none 0 0, .string ⟨#[]⟩] 28)).alloc (.cells #[.nilIface] 37)).alloc (.cells #[.bool false] 4)) = w1 at *
    go_wp2_with (refine wpList_store (.tmp 2) (.tmp 7) 28 rfl rfl w.heap.size 0 _ _ #[v0, v1, v2, v3] rfl rfl X1.out ?s0 HV1.out ?s1 ?_)
    case s0 => kernel_rfl
    case s1 => simp
    intro w3 hx3 ho3
    rw [putCells_all #[.string ⟨#[]⟩, .slice none 0 0, .slice none 0 0, .string ⟨#[]⟩] #[v0, v1, v2, v3] rfl] at hx3
    have hd3 := ho3.blk D1.out (by omega)
    have hr3 := ho3.blk R1.out (by omega)
    have cd := (hd3.cell 0).trans rfl
    have fd := hd3.frozen 0
    have X4 := Lib.hid (hx3.far (b := w.heap.size + 1 + 1) (by omega) 0 (.bool true))
    have R4 := Lib.hid (hr3.far (b := w.heap.size + 1 + 1) (by omega) 0 (.bool true))
    have D4 := Lib.hid (show Blk (w3.setCell ⟨w.heap.size + 1 + 1, 0, none⟩ (.bool true)) (w.heap.size + 1 + 1) 4 #[.bool true] from hd3.set_ 0 _)
    have O4 := Lib.hid (((But.of_below (S := [w.heap.size, w.heap.size + 1, w.heap.size + 2]) (Below.refl _ w2)).only ho3 (by simp)).set_ (w.heap.size + 1 + 1) 0 (.bool true) (by simp))
    clear hx3 ho3 hd3 hr3
    go_wp2_with (first | (refine wpList_loadS (.tmp 2) 28 rfl rfl w.heap.size 28 #[v0, v1, v2, v3] rfl X4.out _ Tryz.underlying28 rfl ?s2 ?_) | (refine wpList_store (.tmp 2) (.tmp 8) 28 rfl rfl w.heap.size 0 _ _ #[v0, v1, v2, v3] rfl rfl X4.out ?s3 HV1.out ?s4 ?_))
    case s2 => kernel_rfl
    case s3 => kernel_rfl
    case s4 => simp
    clear cd fd
    generalize w3.setCell ⟨w.heap.size + 1 + 1, 0, none⟩ (.bool true) = w4 at *
    intro w5 hx5 ho5
    rw [putCells_all #[v0, v1, v2, v3] #[v0, v1, v2, v3] rfl] at hx5
    have hr5 := ho5.blk R4.out (by omega)
    have hd5 := ho5.blk D4.out (by omega)
    have cr := (hr5.cell 0).trans rfl
    have fr := hr5.frozen 0
    have X6 := Lib.hid (hx5.far (b := w.heap.size + 1) (by omega) 0 .nilIface)
    have R6 := Lib.hid (show Blk (w5.setCell ⟨w.heap.size + 1, 0, none⟩ .nilIface) (w.heap.size + 1) 37 #[.nilIface] from hr5.set_ 0 _)
    have D6 := Lib.hid (hd5.far (b := w.heap.size + 1) (by omega) 0 .nilIface)
    have O6 := Lib.hid ((O4.out.only ho5 (by simp)).set_ (w.heap.size + 1) 0 .nilIface (by simp))
    clear hx5 ho5 hd5 hr5
    go_wp2_with fail
    clear cr fr
    generalize w5.setCell ⟨w.heap.size + 1, 0, none⟩ .nilIface = w6 at *
    refine leaves_cons (f := 86) (args := #[.pointer (some ⟨w.heap.size + 1 + 1, 0, none⟩), .pointer (some ⟨w.heap.size, 0, none⟩), .pointer (some ⟨w.heap.size + 1, 0, none⟩)]) (by simp) (by simp [go_sem]) ?_
    refine (tryX_idle _ _ _ w6 ((D6.out.cell 0).trans rfl)).mono ?_
    rintro e u' w7 ⟨rfl, rfl, rfl⟩
    have cb := (R6.out.cell 0).trans rfl
    have c0 := (X6.out.cell 0).trans rfl; have c1 := (X6.out.cell 1).trans rfl; have c2 := (X6.out.cell 2).trans rfl; have c3 := (X6.out.cell 3).trans rfl
    have hfin : TryG S R Q E (.agg #[.string ⟨#[]⟩, .slice none 0 0, .slice none 0 0, .string ⟨#[]⟩]) w (.returned (.tuple #[.agg #[v0, v1, v2, v3], .nilIface])) w7 := by
      exact ⟨But.out ((But.of_below B1.out).trans B2.out) O6.out (Nat.le_refl _), w1, w2, S1.out, B1.out, B2.out, O6.out, .inl ⟨_, rfl, HR.out⟩⟩
    have HF := Lib.hid hfin
    clear hfin
    simp [Leaves, settle, results, Tryz.results43, go_sem, c0, c1, c2, c3, cb]
    exact HF.out
  · have cd := (d1.cell 0).trans rfl
    clear x1 r1 d1 hb1 hb2 hs1
    generalize (((w.alloc (.cells #[.string ⟨#[]⟩, .slice none 0 0, .slice none 0 0, .string ⟨#[]⟩] 28)).alloc (.cells #[.nilIface] 37)).alloc (.cells #[.bool false] 4)) = w1 at *
    go_wp2_with fail
    have hb := (But.of_below B1.out).trans B2.out
    refine leaves_cons (f := 86) (args := #[.pointer (some ⟨w.heap.size + 1 + 1, 0, none⟩), .pointer (some ⟨w.heap.size, 0, none⟩), .pointer (some ⟨w.heap.size + 1, 0, none⟩)]) (by simp) (by simp [go_sem]) ?_
    refine (tryX_err _ _ _ w2 E (.iface T x0) n [] ⟨T, x0, rfl⟩ htells (HE.out w2 hb) cd X1.out R1.out (by omega)).mono ?_
    rintro e u' w4 ⟨rfl, rfl, ca, cb, hBut⟩
    have hfin : TryG S R Q E (.agg #[.string ⟨#[]⟩, .slice none 0 0, .slice none 0 0, .string ⟨#[]⟩]) w (.returned (.tuple #[.agg #[.string ⟨#[]⟩, .slice none 0 0, .slice none 0 0, .string ⟨#[]⟩], errAt (E n)])) w4 := by
      exact ⟨But.out hb (But.wide hBut) (Nat.le_refl _), w1, w2, S1.out, B1.out, B2.out, But.wide hBut, .inr ⟨n, hn, hS, rfl⟩⟩
    have c0 := (ca.cell 0).trans rfl; have c1 := (ca.cell 1).trans rfl; have c2 := (ca.cell 2).trans rfl; have c3 := (ca.cell 3).trans rfl
    have cb' := (cb.cell 0).trans rfl
    have HF := Lib.hid hfin
    clear hfin
    unfold errAt at cb' HF
    simp [Leaves, settle, results, Tryz.results43, go_sem, c0, c1, c2, c3, cb']
    exact HF.out
end Go.Proofs.YtkghpmpmcafhkaaGreatDoor

namespace Go.Proofs.YtkghpmpmcafhkaaGreatDoor
open Go.RowKit Go.Extern.Stop Go.Stop Go.Extern
attribute [local go_sem] bs_toList
attribute [local irreducible] wpPhi

theorem elem_all : ∀ n, ElemC n := by
  intro n
  induction n using Nat.strongRecOn with
  | _ n ih =>
    cases n with
    | zero =>
      intro E r d s w _ _ _ _ h
      omega
    | succ n => exact elem_of n (cont_of n fun m hm => ih m (by omega))
/-- an element's text, read -/
def parse1 (s : List UInt8) : Except Nat Tr := match elemP (2 * s.length + 2) 0 s with
  | .error e => .error e
  | .ok (x, []) => .ok x
  | .ok (_, _ :: _) => .error 3
theorem parseE_of (s : List UInt8) : parseE s = if 20000 < s.length then .error 2 else parse1 s := rfl
def PeR (E : Nat → Addr) (o : Except Nat Tr) (w : World) (e : Ending) (w' : World) : Prop :=
  Below w.heap.size w w' ∧ match o with
    | .ok y => ∃ s0 p1 n1 c1 p2 n2 c2 s3, e = .returned (.agg #[.string s0, .slice p1 n1 c1, .slice p2 n2 c2, .string s3]) ∧ TrC w' (Bt w.heap.size w'.heap.size none) y [.string s0, .slice p1 n1 c1, .slice p2 n2 c2, .string s3]
    | .error k => e = .panicked (panE E k)
theorem errors_small : ∀ {_n _d : Nat} {_s : List UInt8} {_k : Nat}, True := trivial
set_option maxRecDepth 20000 in
set_option maxHeartbeats 4000000 in
theorem parse1_any (E : Nat → Addr) (g : Nat) (s : List UInt8) (w : World) (hg : LibG w) (hE : Errs w E) (hs : s.length ≤ 20000) (hk : w.cell? ⟨g, 0, none⟩ = some (.string (bs s))) :
    Calls Tryz.prog 65 #[.pointer (some ⟨g, 0, none⟩)] w (PeR E (parse1 s) w) := by
  obtain ⟨O, hO⟩ : ∃ O, parse1 s = O := ⟨_, rfl⟩
  rw [hO]
  unfold parse1 at hO
  have hb1 := below_alloc1 w (.cells #[.string ⟨#[]⟩, .slice none 0 0, .slice none 0 0, .string ⟨#[]⟩] 28)
  have hb2 := below_alloc hb1 (.cells #[.string (bs s), .int .i64 0] 133)
  have hk1 := Below.keeps hb1 _ _ hk
  have HW0 := Lib.hid (And.intro hg hE)
  have hr0 := Blk.new (w.alloc (.cells #[.string ⟨#[]⟩, .slice none 0 0, .slice none 0 0, .string ⟨#[]⟩] 28)) 133 #[.string (bs s), .int .i64 0]
  rw [World.size_alloc] at hr0
  have HR := Lib.hid hr0
  have HX := Lib.hid (show LibX (w.heap.size + 1) ((w.alloc (.cells #[.string ⟨#[]⟩, .slice none 0 0, .slice none 0 0, .string ⟨#[]⟩] 28)).alloc (.cells #[.string (bs s), .int .i64 0] 133)) E from ⟨w, by omega, hb2, hg, hE⟩)
  have HZ := Lib.hid ((Blk.new w 28 #[.string ⟨#[]⟩, .slice none 0 0, .slice none 0 0, .string ⟨#[]⟩]).alloc (.cells #[.string (bs s), .int .i64 0] 133))
  have HB2 := Lib.hid hb2
  have HEL := Lib.hid (elem_all (2 * s.length + 2) E (w.heap.size + 1) 0 s _ HX.out HR.out hs (by omega) (Nat.le_refl _))
  have HS2 := Lib.hid (show ((w.alloc (.cells #[.string ⟨#[]⟩, .slice none 0 0, .slice none 0 0, .string ⟨#[]⟩] 28)).alloc (.cells #[.string (bs s), .int .i64 0] 133)).heap.size = w.heap.size + 1 + 1 by simp)
  have HOO := Lib.hid hO
  have HFY := Lib.hid (fun w => xfail_y w)
  clear hb1 hb2 hg hE hk hr0 hO
  go_enter Tryz.func65, Tryz.ntmps65
  go_wp2_with fail
  have hO := HOO.out
  clear HOO hk1
  generalize (w.alloc (.cells #[.string ⟨#[]⟩, .slice none 0 0, .slice none 0 0, .string ⟨#[]⟩] 28)).alloc (.cells #[.string (bs s), .int .i64 0] 133) = w2 at *
  refine HEL.out.mono ?_
  rintro e w3 ⟨hb3, he⟩
  have HB3 := Lib.hid (HB2.out.trans (hb3.below (by intro q hq; rw [List.mem_singleton.1 hq]; omega) HB2.out.size))
  have HX3 := Lib.hid (HX.out.but hb3)
  have HZ3 := Lib.hid (hb3.blk HZ.out (rne _ _ (by omega)))
  have hs3 : w.heap.size + 1 + 1 ≤ w3.heap.size := by have := HS2.out; have := hb3.size; omega
  cases hel : elemP (2 * s.length + 2) 0 s with
  | error k =>
    rw [hel] at hO he
    obtain rfl : O = .error k := hO.symm
    obtain ⟨rfl, _⟩ := he
    exact ⟨rfl, HB3.out, rfl⟩
  | ok q =>
    obtain ⟨x, s'⟩ := q
    rw [hel] at hO he
    obtain ⟨⟨t0, p1, n1, c1, p2, n2, c2, t3, rfl, htr⟩, hr3⟩ := he
    have hba := below_alloc1 w3 (.cells #[.string t0, .slice p1 n1 c1, .slice p2 n2 c2, .string t3] 28)
    have hr4 : Rr (w3.alloc (.cells #[.string t0, .slice p1 n1 c1, .slice p2 n2 c2, .string t3] 28)) (w.heap.size + 1) s' ((0 : Nat) : Int) := hr3.alloc _
    have q4 := (hr4.cell 0).trans rfl
    have hn4 := Blk.new w3 28 #[.string t0, .slice p1 n1 c1, .slice p2 n2 c2, .string t3]
    have HN4 := Lib.hid hn4
    have HT4 := Lib.hid (htr.below hba)
    have HZ4 := Lib.hid (HZ3.out.alloc (.cells #[.string t0, .slice p1 n1 c1, .slice p2 n2 c2, .string t3] 28))
    have HB4 := Lib.hid (HB3.out.trans (hba.mono HB3.out.size))
    have HX4 := Lib.hid (HX3.out.but (But.of_below (S := [w.heap.size + 1]) hba))
    have HS4 := Lib.hid hba.size
    have HS3 := Lib.hid hb3.size
    clear htr hr3 hr4 hba hb3 hel
    cases s' with
    | cons c t =>
      obtain rfl : O = .error 3 := hO.symm
      have hi : (bs (c :: t)).toList.isEmpty = false := by rw [bs_toList]; rfl
      have HFN := Lib.hid (xfail_n _ E HX4.out.errs)
      clear hn4
      go_wp2_with (go_at_call 67; refine HFN.out.mono ?_; rintro e w5 ⟨rfl, rfl⟩)
      exact ⟨rfl, HB4.out, rfl⟩
    | nil =>
      obtain rfl : O = .ok x := hO.symm
      have hi : (bs []).toList.isEmpty = true := by rw [bs_toList]; rfl
      have o0 := (hn4.cell 0).trans rfl
      have o1 := (hn4.cell 1).trans rfl
      have o2 := (hn4.cell 2).trans rfl
      have o3 := (hn4.cell 3).trans rfl
      clear hn4
      go_wp2_with (first | (go_at_call 67; refine (HFY.out _).mono ?_; rintro e w5 ⟨rfl, rfl⟩) | (refine wpList_store (.tmp 1) (.tmp 15) 28 rfl rfl w.heap.size 0 _ _ #[.string t0, .slice p1 n1 c1, .slice p2 n2 c2, .string t3] rfl rfl HZ4.out ?s0 ?s1 ?s2 ?_))
      case s0 => kernel_rfl
      case s1 => simp [Value.oneCell']
      case s2 => simp
      intro w8 hb8 ho8
      rw [putCells_all #[.string ⟨#[]⟩, .slice none 0 0, .slice none 0 0, .string ⟨#[]⟩] #[.string t0, .slice p1 n1 c1, .slice p2 n2 c2, .string t3] rfl] at hb8
      have z0 := (hb8.cell 0).trans rfl
      have z1 := (hb8.cell 1).trans rfl
      have z2 := (hb8.cell 2).trans rfl
      have z3 := (hb8.cell 3).trans rfl
      have h8 := ho8.size
      have HB8 := Lib.hid (HB4.out.trans (ho8.below (B := w.heap.size) (by omega)))
      have hl2 := HS2.out
      have HT8 := Lib.hid ((HT4.out.only ho8 fun b hb => by have := hb.1; omega).imp (Q := Bt w.heap.size w8.heap.size none) fun b hb => ⟨by have := hb.1; omega, by have := hb.2.1; have := HS4.out; omega, hb.2.2⟩)
      clear o0 o1 o2 o3 hb8 ho8 q4
      go_wp2_with fail
      refine bodyPost_ret (v := .agg #[.string t0, .slice p1 n1 c1, .slice p2 n2 c2, .string t3]) (by simp [results, Tryz.results65, go_sem, z0, z1, z2, z3]) rfl ?_
      exact ⟨HB8.out, _, _, _, _, _, _, _, _, rfl, HT8.out⟩
end Go.Proofs.YtkghpmpmcafhkaaGreatDoor

namespace Go.Proofs.YtkghpmpmcafhkaaGreatDoor
open Go.RowKit

def xmlL : List UInt8 := [120, 109, 108]
def xmlnsL : List UInt8 := [120, 109, 108, 110, 115]
/-- a name's prefix and local part -/
def splitF (s : List UInt8) : List UInt8 × List UInt8 := match cutB 58 s with | none => ([], s) | some p => p
def ownF (p : List UInt8) : Bool := p == xmlL || p == xmlnsL
/-- the prefix that an attribute declares: none: it may not; some none: it declares none -/
def declF (a : List (List UInt8)) : Option (Option (List UInt8)) :=
  if a.getD 0 [] = xmlnsL then some (some [])
  else if (splitF (a.getD 0 [])).1 = xmlnsL then (if a.getD 1 [] = [] ∨ ownF (splitF (a.getD 0 [])).2 = true then none else some (some (splitF (a.getD 0 [])).2))
  else some none
/-- declarations, in order; the last one of a prefix holds -/
def declsF : List (List (List UInt8)) → Option (List (List UInt8 × List UInt8))
  | [] => some []
  | a :: l => (declF a).bind fun d => (declsF l).map fun ds => match d with | none => ds | some p => (p, a.getD 1 []) :: ds
def lookF (ds : List (List UInt8 × List UInt8)) (p : List UInt8) : Option (List UInt8) := (ds.reverse.find? (fun d => d.1 == p)).map (·.2)
/-- a name in its space -/
def nameSp (ds : List (List UInt8 × List UInt8)) (s : List UInt8) (attr : Bool) : Option (List (List UInt8)) :=
  if ownF (splitF s).1 = true then none
  else if (splitF s).1 = [] ∧ attr = true then some [[], (splitF s).2]
  else match lookF ds (splitF s).1 with
    | some sp => some [sp, (splitF s).2]
    | none => if (splitF s).1 = [] then some [[], (splitF s).2] else none
/-- an attribute in its space: none: it may not stand there; some none: a declaration -/
def atSp (ds : List (List UInt8 × List UInt8)) (a : List (List UInt8)) : Option (Option (List (List UInt8))) :=
  match declF a with
  | none => none
  | some (some _) => some none
  | some none => if (splitF (a.getD 0 [])).1 ≠ [] ∧ (splitF (a.getD 0 [])).2 = xmlnsL then none else (nameSp ds (a.getD 0 []) true).map fun n => some (n ++ [a.getD 1 []])
/-- attributes, behind those of out -/
def atsSp (ds : List (List UInt8 × List UInt8)) : List (List (List UInt8)) → List (List (List UInt8)) → Option (List (List (List UInt8)))
  | out, [] => some out
  | out, a :: l => match atSp ds a with
    | none => none
    | some none => atsSp ds out l
    | some (some x) => if out.any (fun b => b.take 2 == x.take 2) then none else atsSp ds (out ++ [x]) l
mutual
/-- an element below declarations -/
def Tr.res : List (List UInt8 × List UInt8) → Tr → Option Tr
  | ds, .node nm ats ks t => if nm.getD 0 [] = [] then some (.node [[], []] [] [] t) else
      (declsF ats).bind fun d => (nameSp (ds ++ d) (nm.getD 0 []) false).bind fun n => (atsSp (ds ++ d) [] ats).bind fun bts => (Tr.resL (ds ++ d) ks).map fun k => .node n bts k []
def Tr.resL : List (List UInt8 × List UInt8) → List Tr → Option (List Tr)
  | _, [] => some []
  | ds, k :: ks => (Tr.res ds k).bind fun x => (Tr.resL ds ks).map fun xs => x :: xs
end
/-- Resolve: nothing, where it can't be -/
def resolveF (x : Tr) : Option Tr := if x.rgt 1 = true then x.res [] else none
def zeroE : Tr := .node [[], []] [] [] []
def zeroX : Tr := .node [[]] [] [] []
/-! ### with prefixes -/
def addF (l : List (List UInt8)) (s : List UInt8) : List (List UInt8) := if l.contains s = true ∨ s = [] then l else l ++ [s]
mutual
/-- the spaces of a tree, as they are met -/
def Tr.meet : List (List UInt8) → Tr → List (List UInt8)
  | l, .node nm ats ks _ => Tr.meetL (ats.foldl (fun l a => addF l (a.getD 0 [])) (addF l (nm.getD 0 []))) ks
def Tr.meetL : List (List UInt8) → List Tr → List (List UInt8)
  | l, [] => l
  | l, k :: ks => Tr.meetL (Tr.meet l k) ks
end
def localB (s : List UInt8) : Bool := nameB s && !s.contains 58
def prefF (i : Nat) : List UInt8 := 110 :: Lib.decDigits (i + 1)
/-- a name with its prefix -/
def prefixedF (l : List (List UInt8)) (n : List (List UInt8)) : List UInt8 :=
  if l.idxOf (n.getD 0 []) < l.length then prefF (l.idxOf (n.getD 0 [])) ++ 58 :: n.getD 1 [] else n.getD 1 []
def wriAts (l : List (List UInt8)) : List (List (List UInt8)) → Option (List (List (List UInt8)))
  | [] => some []
  | a :: bts => if localB (a.getD 1 []) = false ∨ (a.getD 0 [] = [] ∧ a.getD 1 [] = xmlnsL) then none else (wriAts l bts).map fun xs => [prefixedF l a, a.getD 2 []] :: xs
mutual
/-- an element with prefixes -/
def Tr.wri : List (List UInt8) → Tr → Option Tr
  | l, .node nm ats ks t => if nm.getD 0 [] = [] ∧ nm.getD 1 [] = [] then (if ats.length = 0 ∧ ks.length = 0 then some (.node [[]] [] [] t) else none) else
      if localB (nm.getD 1 []) = false then none else (wriAts l ats).bind fun bts => (Tr.wriL l ks).map fun xs => .node [prefixedF l nm] bts xs t
def Tr.wriL : List (List UInt8) → List Tr → Option (List Tr)
  | _, [] => some []
  | l, k :: ks => (Tr.wri l k).bind fun x => (Tr.wriL l ks).map fun xs => x :: xs
end
/-- the declarations of the spaces met -/
def declOf (l : List (List UInt8)) : List (List (List UInt8)) := (List.range l.length).map fun i => [xmlnsL ++ 58 :: prefF i, l.getD i []]
def withDecl (l : List (List UInt8)) : Tr → Tr
  | .node nm ats ks t => .node nm (declOf l ++ ats) ks t
/-- Write: nothing, where it can't be -/
def writeF (e : Tr) : Option Tr := (e.wri (e.meet [])).bind fun x => (resolveF (withDecl (e.meet []) x)).bind fun b => if b.eqb e = true then some (withDecl (e.meet []) x) else none
end Go.Proofs.YtkghpmpmcafhkaaGreatDoor

namespace Go.Proofs.YtkghpmpmcafhkaaGreatDoor
open Go.RowKit Go.Extern.Stop Go.Stop Go.Extern
attribute [local go_sem] bs_toList
attribute [local irreducible] wpPhi

mutual
theorem elemP_err : ∀ {n d : Nat} {s : List UInt8} {k : Nat}, elemP n d s = .error k → k = 3 ∨ k = 10
  | 0, _, _, _, h => by unfold elemP at h; cases h; exact .inl rfl
  | n + 1, d, s, k, h => by
    unfold elemP at h
    split at h
    · cases h; exact .inl rfl
    · split at h
      · cases h; exact .inr rfl
      · split at h
        · cases h; exact .inl rfl
        · split at h
          · split at h
            · cases h; exact .inl rfl
            · cases h
          · split at h
            · cases h; exact .inl rfl
            · split at h
              · rename_i e5
                cases h
                exact contP_err e5
              · split at h
                · cases h; exact .inl rfl
                · split at h
                  · split at h
                    · cases h; exact .inl rfl
                    · cases h
                  · cases h; exact .inl rfl
theorem contP_err : ∀ {n d : Nat} {out : List Tr} {s : List UInt8} {k : Nat}, contP n d out s = .error k → k = 3 ∨ k = 10
  | 0, _, _, _, _, h => by unfold contP at h; cases h; exact .inl rfl
  | n + 1, d, out, s, k, h => by
    unfold contP at h
    split at h
    · cases h
    · split at h
      · cases h; exact .inl rfl
      · split at h
        · rename_i e5
          cases h
          exact elemP_err e5
        · exact contP_err h
      · split at h
        · cases h; exact .inl rfl
        · exact contP_err h
end
theorem parse1_err {s : List UInt8} {k : Nat} (h : parse1 s = .error k) : k = 3 ∨ k = 10 := by
  unfold parse1 at h
  split at h
  · rename_i e
    cases h
    exact elemP_err e
  · cases h
  · cases h; exact .inl rfl
/-- the tree that is answered, and the error's number -/
def exT (o : Except Nat Tr) : Tr := match o with | .ok y => y | .error _ => zeroX
def exN (o : Except Nat Tr) : Nat := match o with | .ok _ => 0 | .error k => k + 1
theorem exN_le (s : List UInt8) : exN (parseE s) ≤ 14 := by
  rw [parseE_of]
  split
  · simp [exN]
  · cases h : parse1 s with
    | ok y => simp [exN]
    | error k => rcases parse1_err h with rfl | rfl <;> simp [exN]
theorem zeroX_bt (w : World) (P : Nat → Prop) : TrC w P zeroX [.string ⟨#[]⟩, .slice none 0 0, .slice none 0 0, .string ⟨#[]⟩] := by
  unfold zeroX TrC
  exact ⟨none, 0, none, 0, [], rfl, ⟨Nat.le_refl _, by unfold maxLen; omega, .inl rfl, fun a ha => by cases ha⟩, ⟨Nat.le_refl _, by unfold maxLen; omega, .inl rfl, fun a ha => by cases ha⟩, (by unfold TrL; rfl)⟩
/-- gives the tree, whose rows are new, and no error; or nothing and the error -/
def PaR (E : Nat → Addr) (o : Except Nat Tr) (w : World) (e : Ending) (w' : World) : Prop :=
  Below w.heap.size w w' ∧ ∃ s0 p1 n1 c1 p2 n2 c2 s3, e = .returned (.tuple #[.agg #[.string s0, .slice p1 n1 c1, .slice p2 n2 c2, .string s3], errV E (exN o)]) ∧ TrC w' (Bt w.heap.size w'.heap.size none) (exT o) [.string s0, .slice p1 n1 c1, .slice p2 n2 c2, .string s3]
theorem try_p (w : World) (E : Nat → Addr) (f : FuncId) (caps : Array Value) (o : Except Nat Tr) (hok : ∀ k, o = .error k → k < 14) (he : Errs w E) (hcf : ∀ w, (callFunc f caps).run Tryz.prog w = .ok (.enter f caps) w)
    (hdo : ∀ w1, Below w.heap.size w w1 → Calls Tryz.prog f caps w1 (PeR E o w1)) : Calls Tryz.prog 43 #[.func (.func f) #[] caps] w (PaR E o w) := by
  refine (tryX_any w E f caps [] (fun w1 v w2 => ∃ y s0 p1 n1 c1 p2 n2 c2 s3, o = .ok y ∧ v = .agg #[.string s0, .slice p1 n1 c1, .slice p2 n2 c2, .string s3] ∧ TrC w2 (Bt w1.heap.size w2.heap.size none) y [.string s0, .slice p1 n1 c1, .slice p2 n2 c2, .string s3]) (fun n _ _ => o = .error n) (by simp) (fun w' h => he.below h.nil_below) ?_ hcf (fun w1 hb _ => (hdo w1 hb).mono ?_)).mono ?_
  · rintro w1 v w2 ⟨y, s0, p1, n1, c1, p2, n2, c2, s3, ho, rfl, ht⟩
    exact ⟨_, _, _, _, rfl, rfl, rfl, rfl, rfl⟩
  · rintro e w2 ⟨h1, h2⟩
    refine ⟨?_, But.of_below h1⟩
    cases o with
    | ok y =>
      obtain ⟨s0, p1, n1, c1, p2, n2, c2, s3, rfl, ht⟩ := h2
      exact .inl ⟨_, rfl, y, s0, p1, n1, c1, p2, n2, c2, s3, rfl, rfl, ht⟩
    | error k =>
      obtain rfl := h2
      have hk := hok k rfl
      exact .inr ⟨errAt (E k), k, hk, rfl, ⟨_, _, rfl⟩, told_own E k hk w2, rfl⟩
  · rintro e w' ⟨h1, w1, w2, hs, hb1, hb2, hb3, hor⟩
    refine ⟨h1.nil_below, ?_⟩
    rcases hor with ⟨v, rfl, y, s0, p1, n1, c1, p2, n2, c2, s3, ho, rfl, ht⟩ | ⟨n, _, ho, rfl⟩
    · subst ho
      refine ⟨s0, p1, n1, c1, p2, n2, c2, s3, rfl, ?_⟩
      have h := ht.keepP (w' := w') fun a u hp hc => (World.cell?_of_block (hb3.block a.block (cell_lt hc) (by
        have := hp.1
        simp only [List.contains_eq_any_beq, List.any_cons, List.any_nil, Bool.or_false, Bool.or_eq_false_iff, beq_eq_false_iff_ne]
        omega))).trans hc
      exact h.imp fun b hb => ⟨by have := hb.1; omega, Nat.lt_of_lt_of_le hb.2.1 hb3.size, by simp⟩
    · subst ho
      exact ⟨_, _, _, _, _, _, _, _, rfl, zeroX_bt _ _⟩
set_option maxRecDepth 20000 in
set_option maxHeartbeats 4000000 in
theorem parse_any (E : Nat → Addr) (s : List UInt8) (w : World) (hg : LibG w) (hE : Errs w E) (hs : s.length ≤ maxLen) :
    Calls Tryz.prog 28 #[.string (bs s)] w (PaR E (parseE s) w) := by
  rw [parseE_of]
  obtain ⟨w2, hw2⟩ : ∃ w2, w2 = (w.alloc (.cells #[.string (bs s)] 9)).alloc (.cells #[.string ⟨#[]⟩, .slice none 0 0, .slice none 0 0, .string ⟨#[]⟩] 28) := ⟨_, rfl⟩
  have hB2 : Below w.heap.size w w2 := by rw [hw2]; exact below_alloc (below_alloc1 w _) _
  have hN1 : Blk w2 w.heap.size 9 #[.string (bs s)] := by rw [hw2]; exact (Blk.new w _ _).alloc _
  have hN2 : Blk w2 (w.heap.size + 1) 28 #[.string ⟨#[]⟩, .slice none 0 0, .slice none 0 0, .string ⟨#[]⟩] := by
    rw [hw2]
    have := Blk.new (w.alloc (.cells #[.string (bs s)] 9)) 28 #[.string ⟨#[]⟩, .slice none 0 0, .slice none 0 0, .string ⟨#[]⟩]
    rwa [World.size_alloc] at this
  have hS2 : w2.heap.size = w.heap.size + 2 := by rw [hw2]; simp
  have HW2 := Lib.hid hw2
  have B2 := Lib.hid hB2
  have N2 := Lib.hid hN2
  have HS2 := Lib.hid hS2
  by_cases hlen : 20000 < s.length
  · rw [if_pos hlen]
    have HE2 := Lib.hid (hE.below hB2)
    have hlt : (20000 : Int) < ((bs s).size : Int) := by rw [bs_size]; omega
    have hbb := Below.refl w2.heap.size w2
    have n1c := hN1.cell 0
    have HM := Lib.hid hs
    clear hg hE hN1 hS2 hs
    go_enter Tryz.func28, Tryz.ntmps28
    go_wp2_with fail
    have HLN := HE2.out.long
    rw [HW2.out] at HLN
    clear hw2 n1c hN2 hB2
    go_region
    rw [← HW2.out]
    have hB8 := B2.out.drew
    have z0 : w2.drew.cell? ⟨w.heap.size + 1, 0, none⟩ = some (.string ⟨#[]⟩) := (N2.out.cell 0).trans rfl
    have z1 : w2.drew.cell? ⟨w.heap.size + 1, 1, none⟩ = some (.slice none 0 0) := (N2.out.cell 1).trans rfl
    have z2 : w2.drew.cell? ⟨w.heap.size + 1, 2, none⟩ = some (.slice none 0 0) := (N2.out.cell 2).trans rfl
    have z3 : w2.drew.cell? ⟨w.heap.size + 1, 3, none⟩ = some (.string ⟨#[]⟩) := (N2.out.cell 3).trans rfl
    generalize w2.drew = w8 at *
    have HBW := Lib.hid hB8
    clear hB8
    go_wp2_with fail
    refine bodyPost_ret (v := .tuple #[.agg #[.string ⟨#[]⟩, .slice none 0 0, .slice none 0 0, .string ⟨#[]⟩], .iface 244 (.pointer (some (E 2)))]) (by simp [results, Tryz.results28, go_sem, z0, z1, z2, z3]) rfl ?_
    exact ⟨HBW.out, _, _, _, _, _, _, _, _, rfl, zeroX_bt _ _⟩
  · rw [if_neg hlen]
    have hnl : ¬ (20000 : Int) < ((bs s).size : Int) := by rw [bs_size]; omega
    have hcf := fun xs w => (show (callFunc 65 xs).run Tryz.prog w = .ok (.enter 65 xs) w from by kernel_rfl)
    have hTR := try_p w2 E 65 #[.pointer (some ⟨w.heap.size, 0, none⟩)] (parse1 s) (fun k h => by rcases parse1_err h with rfl | rfl <;> omega) (hE.below hB2) (hcf _) (fun w1 hb => parse1_any E w.heap.size s w1 (hg.below (hB2.trans (hb.mono hB2.size))) (hE.below (hB2.trans (hb.mono hB2.size))) (by omega) (Below.keeps hb _ _ (hN1.cell 0)))
    have hmf := @run_makeFunc Tryz.prog
    have HM := Lib.hid hs
    generalize parse1 s = o at *
    have hT2 := hTR
    rw [hw2] at hT2
    have HT2 := Lib.hid hT2
    clear hT2 hTR hB2 hN2 hw2 hg hE hN1 hS2 hs
    go_enter Tryz.func28, Tryz.ntmps28
    go_wp2_with fail
    refine HT2.out.mono ?_
    rintro e w3 ⟨hb3, s0, p1, n1, c1, p2, n2, c2, s3, rfl, hT4⟩
    rw [← HW2.out] at hb3 hT4
    have hbn := N2.out.below hb3 N2.out.lt
    go_wp2_with (first | (refine wpList_store (.tmp 2) (.tmp 11) 28 rfl rfl (w.heap.size + 1) 0 _ _ #[.string s0, .slice p1 n1 c1, .slice p2 n2 c2, .string s3] rfl rfl hbn ?s0 ?s1 ?s2 ?_))
    case s0 => kernel_rfl
    case s1 => simp [Value.oneCell']
    case s2 => simp
    intro w8 hb8 ho8
    rw [putCells_all #[.string ⟨#[]⟩, .slice none 0 0, .slice none 0 0, .string ⟨#[]⟩] #[.string s0, .slice p1 n1 c1, .slice p2 n2 c2, .string s3] rfl] at hb8
    have z0 := (hb8.cell 0).trans rfl
    have z1 := (hb8.cell 1).trans rfl
    have z2 := (hb8.cell 2).trans rfl
    have z3 := (hb8.cell 3).trans rfl
    have hlw := HS2.out
    have HT8 := Lib.hid ((hT4.only ho8 fun b hb => by have := hb.1; omega).imp (Q := Bt w.heap.size w8.heap.size none) fun b hb => ⟨by have := hb.1; omega, by rw [ho8.size]; exact hb.2.1, by simp⟩)
    have HBW := Lib.hid ((B2.out.trans (hb3.mono B2.out.size)).trans (ho8.below (by omega : w.heap.size ≤ w.heap.size + 1)))
    clear hb8 ho8 hT4 hbn hb3
    go_wp2_with fail
    refine bodyPost_ret (v := .tuple #[.agg #[.string s0, .slice p1 n1 c1, .slice p2 n2 c2, .string s3], errV E (exN o)]) (by simp [results, Tryz.results28, go_sem, z0, z1, z2, z3]) rfl ?_
    exact ⟨HBW.out, _, _, _, _, _, _, _, _, rfl, HT8.out⟩
end Go.Proofs.YtkghpmpmcafhkaaGreatDoor
