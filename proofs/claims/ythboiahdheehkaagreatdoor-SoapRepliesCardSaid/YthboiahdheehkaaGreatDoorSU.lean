/- SoapX -/
import Derived.Test.YthboiahdheehkaaGreatDoorBS
import Derived.Test.YthboiahdheehkaaGreatDoorSW
import Derived.Test.YthboiahdheehkaaGreatDoorPF
import Derived.Test.YthboiahdheehkaaGreatDoorST
import Derived.Test.YthboiahdheehkaaGreatDoorPO
open Go.Lib renaming hid → hI
open Bool renaming and_eq_true → bA
open Go.Proofs.Tryz renaming prog → pG
open Go.Value renaming string → S
open Go.Value renaming slice → C
open Go.Obj renaming cells → B
namespace Go.Proofs.YthboiahdheehkaaGreatDoor
section
set_option maxHeartbeats 8000000
set_option maxRecDepth 20000
open Go.RowKit Go.Extern.Stop Go.Stop Go.Extern
attribute [local go_sem] bs_toList
def FmR (E : Nat → Addr) (o : Option Tr) (w : World) (e : Ending) (w' : World) : Prop :=
 Below w.heap.size w w' ∧ ((∃ y s0 p1 n1 c1 p2 n2 c2 s3, o = some y ∧ e = .returned (.agg #[.string s0, C p1 n1 c1, C p2 n2 c2, .string s3]) ∧ TrC w' (fun _ => True) y [.string s0, C p1 n1 c1, C p2 n2 c2, .string s3]) ∨ (o = none ∧ e = .panicked (panE E 3)))
def foS (o : Option Tr) : List UInt8 := match o with | none => [] | some x => textS x
def foN (o : Option Tr) : Nat := match o with | none => 4 | some x => textE x
theorem foN_le (o : Option Tr) : foN o ≤ 14 := by
 cases o with
 | none => simp [foN]
 | some x =>
  unfold foN textE
  simp only
  split
  ·omega
  ·split <;> omega
theorem swrite1_of (E : Nat → Addr) (gb : Nat) (v0 v1 v2 v3 v4 v5 v6 v7 v8 v9 v10 : Value) (o : Option Tr) (w : World) (hg : LibG w) (hE : Errs w E) (hfit : ∀ y, o = some y → y.ok 1 ∧ y.shr)
  (hk : Blk w gb 46 #[v0, v1, v2, v3, v4, v5, v6, v7, v8, v9, v10])
  (hF : Calls pG 39 #[.agg #[v0, v1, v2, v3, v4, v5, v6, v7, v8, v9, v10]] w (FmR E o w)) :
  Calls pG 37 #[.pointer (some ⟨gb, 0, none⟩)] w (TxR E (foS o) (foN o) w) := by
 obtain ⟨z0, z1, z2, z3, z4, z5, z6, z7, z8, z9, z10⟩ := hk.cc
 have HF := hI hF
 have HFIT := hI hfit
 have HTX := hI (fun y cx w1 (ho : o = some y) (hb : Below w.heap.size w w1) (hT : TrC w1 (fun _ => True) y cx) => text_any E y _ cx w1 (hg.below hb) (hE.below hb) (hfit y ho).1 (hfit y ho).2 hT)
 clear hk hF hfit hg hE
 go_enter Tryz.func37, Tryz.ntmps37
 go_wp2_with fail
 refine HF.out.mono ?_
 rintro e w1 ⟨hb1, ⟨y, s0, p1, n1, c1, p2, n2, c2, s3, rfl, rfl, hT⟩ | ⟨rfl, rfl⟩⟩
 rotate_left 1
 ·have HB1 := hI hb1
  clear hb1 z0 z1 z2 z3 z4 z5 z6 z7 z8 z9 z10
  go_wp2_with fail
  exact ⟨rfl, HB1.out, .inr ⟨3, rfl, by omega, rfl⟩⟩
 have HB1 := hI hb1
 have HT := hI hT
 have hle := foN_le (some y)
 have HLE := hI hle
 clear hb1 hT hle z0 z1 z2 z3 z4 z5 z6 z7 z8 z9 z10
 go_wp2_with fail
 refine (HTX.out y _ w1 rfl HB1.out HT.out).mono ?_
 rintro e w2 ⟨rfl, hb2⟩
 have HB2 := hI (HB1.out.trans (hb2.mono HB1.out.size))
 clear hb2
 go_wp2_with fail
 refine (must_txt E (textS y) (textE y) HLE.out w2).mono ?_
 rintro e w3 ⟨hb3, ⟨h0, rfl⟩ | ⟨k, hk, h14, rfl⟩⟩
 ·have HB3 := hI (HB2.out.trans (hb3.mono HB2.out.size))
  have H0 := hI h0
  clear hb3 h0
  go_wp2_with fail
  go_ret
  exact ⟨HB3.out, .inl ⟨H0.out, rfl⟩⟩
 ·have HB3 := hI (HB2.out.trans (hb3.mono HB2.out.size))
  have HK := hI hk
  have H14 := hI h14
  clear hb3 hk h14
  go_wp2_with fail
  exact ⟨rfl, HB3.out, .inr ⟨k, HK.out, H14.out, rfl⟩⟩
theorem swrite_of (E : Nat → Addr) (v0 v1 v2 v3 v4 v5 v6 v7 v8 v9 v10 : Value) (o : Option Tr) (w : World) (hg : LibG w) (hE : Errs w E) (hfit : ∀ y, o = some y → y.ok 1 ∧ y.shr)
  (hF : ∀ w1, Below w.heap.size w w1 → Calls pG 39 #[.agg #[v0, v1, v2, v3, v4, v5, v6, v7, v8, v9, v10]] w1 (FmR E o w1)) :
  Calls pG 19 #[.agg #[v0, v1, v2, v3, v4, v5, v6, v7, v8, v9, v10]] w fun e w' => e = .returned (.tuple #[S (bs (if foN o = 0 then foS o else [])), errV E (foN o)]) ∧ Below w.heap.size w w' := by
 have hb1 := below_alloc1 w (B #[v0, v1, v2, v3, v4, v5, v6, v7, v8, v9, v10] 46)
 have hn1 := Blk.new w 46 #[v0, v1, v2, v3, v4, v5, v6, v7, v8, v9, v10]
 have hcf := fun xs w => (show (callFunc 37 xs).run pG w = .ok (.enter 37 xs) w from by kernel_rfl)
 have hTR := try_txt _ E 37 #[.pointer (some ⟨w.heap.size, 0, none⟩)] (foS o) (foN o) (hE.below hb1) (hcf _) (fun w1 hb => swrite1_of E w.heap.size v0 v1 v2 v3 v4 v5 v6 v7 v8 v9 v10 o w1 (hg.below (hb1.trans (hb.mono hb1.size))) (hE.below (hb1.trans (hb.mono hb1.size))) hfit (hn1.below hb hn1.lt) (hF w1 (hb1.trans (hb.mono hb1.size))))
 have hmf := @run_makeFunc pG
 generalize (if foN o = 0 then foS o else []) = tx at hTR ⊢
 have HTR := hI hTR
 have HB1 := hI hb1
 clear hg hE hfit hF hn1 hTR hb1
 go_enter Tryz.func19, Tryz.ntmps19
 go_wp2_with (go_at_call 27; refine HTR.out.mono ?_; rintro e w3 ⟨rfl, hb3⟩; have HB3 := hI (HB1.out.trans (hb3.mono HB1.out.size)); clear hb3)
 go_ret2
 exact ⟨rfl, HB3.out⟩
end
section
set_option maxHeartbeats 8000000
set_option maxRecDepth 20000
open Go.RowKit Go.Extern.Stop Go.Stop Go.Extern
attribute [local go_sem] bs_toList
def EnvC (w : World) (e : Env) (cs : Array Value) : Prop :=
 ∃ (ph : Option Addr) (ch : Nat) (cssH : List (List Value)) (b0 b1 bt : List UInt8) (pa : Option Addr) (na ca : Nat) (pk : Option Addr) (nk ck : Nat),
  cs = #[S (bs e.act), S (bs e.to), S (bs e.id), S (bs e.frm), S (bs e.rel), C ph e.hds.length ch, S (bs b0), S (bs b1), C pa na ca, C pk nk ck, S (bs bt)] ∧
  e.bdy.nm = [b0, b1] ∧ e.hds.length ≤ ch ∧ ch ≤ maxLen ∧ Rd w ph cssH.flatten ∧ TrXL w (fun b => b < w.heap.size) e.hds cssH ∧
  TrX w (fun b => b < w.heap.size) e.bdy [S (bs b0), S (bs b1), C pa na ca, C pk nk ck, S (bs bt)]
theorem EnvC.below {w w' : World} {e : Env} {cs : Array Value} (h : EnvC w e cs) (hb : Below w.heap.size w w') : EnvC w' e cs := by
 obtain ⟨ph, ch, cssH, b0, b1, bt, pa, na, ca, pk, nk, ck, h1, h2, h3, h4, h5, h6, h7⟩ := h
 have hs := hb.size
 exact ⟨ph, ch, cssH, b0, b1, bt, pa, na, ca, pk, nk, ck, h1, h2, h3, h4, h5.keep (Below.keeps hb), TrXL.imp (fun b h => by omega) _ _ (h6.below hb), TrX.imp (fun b h => by omega) _ _ (h7.below hb)⟩
theorem okL_app {k : Nat} : ∀ {xs ys : List Tr}, Tr.okL k (xs ++ ys) → Tr.okL k xs ∧ Tr.okL k ys
 | [], ys, h => ⟨by unfold Tr.okL; trivial, h⟩
 | x :: xs, ys, h => by
  have h' : x.ok k ∧ Tr.okL k (xs ++ ys) := by rw [List.cons_append] at h; unfold Tr.okL at h; exact h
  refine ⟨?_, (okL_app h'.2).2⟩
  unfold Tr.okL
  exact ⟨h'.1, (okL_app h'.2).1⟩
theorem env_ok {e : Env} (h : e.tree.ok 2) : Tr.okL 2 e.hds ∧ e.bdy.ok 2 := by
 unfold Env.tree Tr.ok Tr.okL at h
 obtain ⟨_, _, h1, h2⟩ := h
 unfold Tr.okL at h2
 obtain ⟨h2, _⟩ := h2
 unfold Tr.ok at h1 h2
 obtain ⟨_, _, h1⟩ := h1
 obtain ⟨_, _, h2⟩ := h2
 unfold Tr.okL at h2
 unfold Env.hdrs at h1
 unfold Tr.okL at h1
 have h1 := h1.2
 unfold Tr.okL at h1
 have h1 := h1.2
 unfold Tr.okL at h1
 have h1 := h1.2
 exact ⟨(okL_app (okL_app h1).2).2, h2.1⟩
theorem tree25_any (e : Env) (cs : Array Value) (w : World) (hc : EnvC w e cs) (hl : e.hds.length ≤ 1000000) (hok : ∀ x ∈ e.hds, x.nm.length = 2) (hb1 : e.bdy.nm.getD 1 [] ≠ []) : Calls pG 76 #[.agg cs] w (TreeR e w) := by
 obtain ⟨act, tt, ii, frm, rel, hds, bdy⟩ := e
 obtain ⟨ph, ch, cssH, b0, b1, bt, pa, na, ca, pk, nk, ck, rfl, hbn, hch, hcm, hrd, hH, hB⟩ := hc
 simp only at hl hok hb1 hbn hch hrd hH hB ⊢
 have hnv : S (bs b1) ≠ S ⟨#[]⟩ := by
  rw [hbn] at hb1
  intro h
  injection h with h
  refine hb1 ?_
  have := congrArg (fun b : ByteArray => b.data.toList) h
  simpa [bs] using this
 exact tree25_all act tt ii frm rel hds bdy ph ch cssH _ _ _ _ _ w hnv hl hok hrd hH hB
theorem trc_four {w : World} {P : Nat → Prop} {x : Tr} {cs : List Value} (h : TrC w P x cs) (hn : x.nm.length = 1) : ∃ s0 p1 n1 c1 p2 n2 c2 s3, cs = [.string s0, C p1 n1 c1, C p2 n2 c2, .string s3] := by
 obtain ⟨nm, ats, ks, t⟩ := x
 unfold TrC at h
 obtain ⟨pa, ca, pk, ck, css, rfl, _⟩ := h
 obtain ⟨a, rfl⟩ := one_of hn
 exact ⟨_, _, _, _, _, _, _, _, rfl⟩
theorem mustX_ok (c0 c1 c2 c3 : Value) (h0 : c0.oneCell' = true) (h1 : c1.oneCell' = true) (h2 : c2.oneCell' = true) (h3 : c3.oneCell' = true) (w : World) :
  Calls pG 47 #[.agg #[c0, c1, c2, c3], .nilIface] w (Gives w (.agg #[c0, c1, c2, c3])) := by
 have hN1 := (Blk.new w 96 #[c0, c1, c2, c3]).alloc (B #[S ⟨#[]⟩, C none 0 0, C none 0 0, S ⟨#[]⟩] 96)
 have HN2 := hI (show Blk ((w.alloc (B #[c0, c1, c2, c3] 96)).alloc (B #[S ⟨#[]⟩, C none 0 0, C none 0 0, S ⟨#[]⟩] 96)) (w.heap.size + 1) 96 #[S ⟨#[]⟩, C none 0 0, C none 0 0, S ⟨#[]⟩] from by
  have := Blk.new (w.alloc (B #[c0, c1, c2, c3] 96)) 96 #[S ⟨#[]⟩, C none 0 0, C none 0 0, S ⟨#[]⟩]
  rwa [World.size_alloc] at this)
 have HB := hI (below_alloc (below_alloc1 w (B #[c0, c1, c2, c3] 96)) (B #[S ⟨#[]⟩, C none 0 0, C none 0 0, S ⟨#[]⟩] 96))
 obtain ⟨d0, d1, d2, d3, -⟩ := hN1.cc
 clear hN1
 unfold Gives
 go_enter Tryz.func47, Tryz.ntmps47
 go_wp2_with (first | (go_at_call 61; refine (check_nil _).mono ?_; rintro e w2 ⟨rfl, rfl⟩) | (refine wpList_store (.tmp 4) (.tmp 7) 96 rfl rfl (w.heap.size + 1) 0 _ _ #[c0, c1, c2, c3] rfl rfl HN2.out ?s0 (by simp [h0, h1, h2, h3]) ?s2 ?_))
 case s0 => kernel_rfl
 case s2 => simp
 intro w8 hb8 ho8
 rw [putCells_all #[S ⟨#[]⟩, C none 0 0, C none 0 0, S ⟨#[]⟩] #[c0, c1, c2, c3] rfl] at hb8
 obtain ⟨z0, z1, z2, z3, -⟩ := hb8.cc
 have HBW := hI (HB.out.trans (ho8.below (by omega : w.heap.size ≤ w.heap.size + 1)))
 clear hb8 ho8 d0 d1 d2 d3
 go_wp2_with fail
 refine bodyPost_ret (v := .agg #[c0, c1, c2, c3]) (by simp [results, Tryz.results47, go_sem, z0, z1, z2, z3]) rfl ?_
 exact ⟨rfl, HBW.out⟩
theorem mustX_no (E : Nat → Addr) (n : Nat) (c0 c1 c2 c3 : Value) (w : World) :
  Calls pG 47 #[.agg #[c0, c1, c2, c3], errAt (E n)] w fun e w' => e = .panicked (panE E n) ∧ Below w.heap.size w w' := by
 have HB := hI (below_alloc (below_alloc1 w (B #[c0, c1, c2, c3] 96)) (B #[S ⟨#[]⟩, C none 0 0, C none 0 0, S ⟨#[]⟩] 96))
 have HC := hI (fun w => check_err w E n)
 rw [show errV E (n + 1) = errAt (E n) from rfl] at HC
 unfold errAt at HC ⊢
 go_enter Tryz.func47, Tryz.ntmps47
 go_wp2_with (go_at_call 61; refine (HC.out _).mono ?_; rintro e w2 ⟨rfl, rfl⟩)
 exact ⟨rfl, rfl, HB.out⟩
theorem okL_nm {k : Nat} {xs : List Tr} (h : Tr.okL k xs) (x : Tr) (hx : x ∈ xs) : x.nm.length = k := by
 obtain ⟨i, hi, rfl⟩ := List.mem_iff_getElem.1 hx
 have := okL_get k xs h i hi
 generalize xs[i] = y at *
 obtain ⟨nm, ats, ks, t⟩ := y
 unfold Tr.ok at this
 exact this.1
theorem soformed_any (E : Nat → Addr) (e : Env) (cs : Array Value) (w : World) (hg : LibG w) (hE : Errs w E) (hc : EnvC w e cs) (hok : e.tree.ok 2) (hsz : e.tree.ssz 1000) (hnm : e.tree.nms.length ≤ 40000) :
  Calls pG 39 #[.agg cs] w (FmR E e.formed w) := by
 have HC := hI hc
 obtain ⟨hokh, hokb⟩ := env_ok hok
 have HW := hI (fun w' (hb : Below w.heap.size w w') cx (hT : TrC w' (fun _ => True) e.tree cx) => write_any E e.tree _ cx w' (hg.below hb) (hE.below hb) hok hsz hnm hT)
 have HON := hI (fun y (h : writeF e.tree = some y) => write_nm hok h)
 have HTREE := hI (fun w' (hb : Below w.heap.size w w') => tree25_any e cs w' (hc.below hb))
 obtain ⟨act, tt, ii, frm, rel, hds, bdy⟩ := e
 obtain ⟨ph, ch, cssH, b0, b1, bt, pa, na, ca, pk, nk, ck, rfl, hbn, hch, hcm, hrd, hH, hB⟩ := hc
 simp only at hbn hch hrd hH hB hokh hokb HTREE ⊢
 have HB := hI (below_alloc (below_alloc1 w (B #[S (bs act), S (bs tt), S (bs ii), S (bs frm), S (bs rel), C ph hds.length ch, S (bs b0), S (bs b1), C pa na ca, C pk nk ck, S (bs bt)] 46)) (B #[S ⟨#[]⟩, C none 0 0, C none 0 0, S ⟨#[]⟩] 96))
 have hN := (Blk.new w 46 #[S (bs act), S (bs tt), S (bs ii), S (bs frm), S (bs rel), C ph hds.length ch, S (bs b0), S (bs b1), C pa na ca, C pk nk ck, S (bs bt)]).alloc (B #[S ⟨#[]⟩, C none 0 0, C none 0 0, S ⟨#[]⟩] 96)
 have hM := Blk.new (w.alloc (B #[S (bs act), S (bs tt), S (bs ii), S (bs frm), S (bs rel), C ph hds.length ch, S (bs b0), S (bs b1), C pa na ca, C pk nk ck, S (bs bt)] 46)) 96 #[S ⟨#[]⟩, C none 0 0, C none 0 0, S ⟨#[]⟩]
 rw [World.size_alloc] at hM
 have HF := hI (sofail_n _ E (hE.below HB.out))
 have HFW := hI (fun w' (hb : Below w.heap.size w w') => sofail_n w' E (hE.below hb))
 obtain ⟨z0, z1, z2, z3, z4, z5, z6, z7, -⟩ := hN.cc
 have HN := hI hN
 have HM := hI hM
 have HH := hI (And.intro hrd (And.intro hH hokh))
 clear hN hM hrd hH hB hg hE hok hsz hnm hokh hokb
 cases act with
 | nil =>
  clear HC HH HW HTREE HON
  go_enter Tryz.func39, Tryz.ntmps39
  go_wp2_with (go_at_call 72; refine HF.out.mono ?_; rintro e w2 ⟨rfl, rfl⟩)
  exact ⟨rfl, HB.out, .inr ⟨by simp [Env.formed, Env.fine], rfl⟩⟩
 | cons a0 al =>
 cases tt with
 | nil =>
  clear HC HH HW HTREE HON
  go_enter Tryz.func39, Tryz.ntmps39
  go_wp2_with (go_at_call 72; refine HF.out.mono ?_; rintro e w2 ⟨rfl, rfl⟩)
  exact ⟨rfl, HB.out, .inr ⟨by simp [Env.formed, Env.fine], rfl⟩⟩
 | cons t0 tl =>
 cases ii with
 | nil =>
  clear HC HH HW HTREE HON
  go_enter Tryz.func39, Tryz.ntmps39
  go_wp2_with (go_at_call 72; refine HF.out.mono ?_; rintro e w2 ⟨rfl, rfl⟩)
  exact ⟨rfl, HB.out, .inr ⟨by simp [Env.formed, Env.fine], rfl⟩⟩
 | cons i0 il =>
 cases b1 with
 | nil =>
  clear HC HH HW HTREE HON
  go_enter Tryz.func39, Tryz.ntmps39
  go_wp2_with (go_at_call 72; refine HF.out.mono ?_; rintro e w2 ⟨rfl, rfl⟩)
  exact ⟨rfl, HB.out, .inr ⟨by simp [Env.formed, Env.fine, hbn], rfl⟩⟩
 | cons c0 cl =>
 by_cases hlen : ¬ hds.length ≤ 16
 ·have hl' : ¬ (hds.length : Int) ≤ 16 := by omega
  clear HC HH HW HTREE HON
  go_enter Tryz.func39, Tryz.ntmps39
  go_wp2_with (go_at_call 72; refine HF.out.mono ?_; rintro e w2 ⟨rfl, rfl⟩)
  exact ⟨rfl, HB.out, .inr ⟨by simp [Env.formed, Env.fine, hlen], rfl⟩⟩
 have hle : hds.length ≤ 16 := Decidable.not_not.1 hlen
 have hl' : (hds.length : Int) ≤ 16 := by omega
 obtain ⟨R, hR⟩ : ∃ R, (⟨a0 :: al, t0 :: tl, i0 :: il, frm, rel, hds, bdy⟩ : Env).formed = R := ⟨_, rfl⟩
 have HRF := hI (show (if ([a0 :: al, t0 :: tl, i0 :: il, frm, rel].all noCR && hds.all furB) = true then writeF (⟨a0 :: al, t0 :: tl, i0 :: il, frm, rel, hds, bdy⟩ : Env).tree else none) = R from by
  rw [← hR]
  unfold Env.formed
  have hf : (⟨a0 :: al, t0 :: tl, i0 :: il, frm, rel, hds, bdy⟩ : Env).fine = ([a0 :: al, t0 :: tl, i0 :: il, frm, rel].all noCR && hds.all furB) := by
   unfold Env.fine
   simp [hbn, hle, Bool.and_assoc]
  rw [hf])
 rw [hR]
 have HLE := hI hle
 have HTR := hI (fun w' (hb : Below w.heap.size w w') => HTREE.out w' hb (by omega) (fun x hx => okL_nm HH.out.2.2 x hx) (by simp [hbn]))
 have HBS := hI (below_alloc (HB.out) (B #[S (bs (a0 :: al)), S (bs (t0 :: tl)), S (bs (i0 :: il)), S (bs frm), S (bs rel)] 9))
 have HNS := hI (HN.out.alloc (B #[S (bs (a0 :: al)), S (bs (t0 :: tl)), S (bs (i0 :: il)), S (bs frm), S (bs rel)] 9))
 have HMS := hI (HM.out.alloc (B #[S (bs (a0 :: al)), S (bs (t0 :: tl)), S (bs (i0 :: il)), S (bs frm), S (bs rel)] 9))
 have hss := Blk.new ((w.alloc (B #[S (bs (a0 :: al)), S (bs (t0 :: tl)), S (bs (i0 :: il)), S (bs frm), S (bs rel), C ph hds.length ch, S (bs b0), S (bs (c0 :: cl)), C pa na ca, C pk nk ck, S (bs bt)] 46)).alloc (B #[S ⟨#[]⟩, C none 0 0, C none 0 0, S ⟨#[]⟩] 96)) 9 #[S (bs (a0 :: al)), S (bs (t0 :: tl)), S (bs (i0 :: il)), S (bs frm), S (bs rel)]
 rw [World.size_alloc, World.size_alloc] at hss
 have HSS := hI hss
 clear hss
 clear HF hlen hle hR HTREE
 go_enter Tryz.func39, Tryz.ntmps39
 go_wp2_with (go_at_call 72; refine (sofail_y _).mono ?_; rintro e w2 ⟨rfl, rfl⟩)
 generalize ((w.alloc (B #[S (bs (a0 :: al)), S (bs (t0 :: tl)), S (bs (i0 :: il)), S (bs frm), S (bs rel), C ph hds.length ch, S (bs b0), S (bs (c0 :: cl)), C pa na ca, C pk nk ck, S (bs bt)] 46)).alloc (B #[S ⟨#[]⟩, C none 0 0, C none 0 0, S ⟨#[]⟩] 96)).alloc (B #[S (bs (a0 :: al)), S (bs (t0 :: tl)), S (bs (i0 :: il)), S (bs frm), S (bs rel)] 9) = wS at *
 clear z0 z1 z2 z3 z4 z5 z6 z7 HB HN HM
 go_loopw [46] (fun iv wr => ∃ k : Nat, k ≤ 5 ∧ iv = .int .i64 k ∧ wr = wS ∧ (∀ j, j < k → noCR ([a0 :: al, t0 :: tl, i0 :: il, frm, rel].getD j []) = true)) (fun iv _ => 5 - (intOf iv).toNat)
 case atStart => exact ⟨0, by omega, rfl, rfl, fun j h => by omega⟩
 case round =>
  obtain ⟨k, hk, rfl, hws, hpre⟩ := hrel
  have hws := hws.symm
  subst hws
  by_cases hlt : k < 5
  ·have hcell : wS.cell? ⟨w.heap.size + 1 + 1, k, none⟩ = some (S (bs ([a0 :: al, t0 :: tl, i0 :: il, frm, rel].getD k []))) := by
    rw [HSS.out.cell]
    rcases k with _ | _ | _ | _ | _ | k
    all_goals first | rfl | omega
   have hcell0 : wS.cell? ⟨w.heap.size + 1 + 1, 0 + k, none⟩ = some (S (bs ([a0 :: al, t0 :: tl, i0 :: il, frm, rel].getD k []))) := by rw [Nat.zero_add]; exact hcell
   have hlt' : (k : Int) < 5 := by omega
   obtain ⟨s, hs⟩ : ∃ s, [a0 :: al, t0 :: tl, i0 :: il, frm, rel].getD k [] = s := ⟨_, rfl⟩
   rw [hs] at hcell hcell0
   have HCO := hI (Tryz.strings_Contains_one (bs s) 13 wS)
   rw [show (bs s).data.toList = s from by simp [bs], idx_has] at HCO
   have HS := hI hs
   have HPRE := hI hpre
   clear hs hpre
   cases hcr : s.contains 13 with
   | true =>
    rw [hcr] at HCO
    go_wp2_with (first | (go_at_call 73; refine HCO.out.mono ?_; rintro e w2 ⟨rfl, rfl⟩) | (go_at_call 72; refine (HFW.out _ HBS.out).mono ?_; rintro e w3 ⟨rfl, rfl⟩))
    refine ⟨rfl, HBS.out, .inr ⟨?_, rfl⟩⟩
    rw [← HRF.out, if_neg]
    intro h
    simp only [bA] at h
    have h1 := List.all_eq_true.1 h.1 s (by rw [← HS.out, List.getD_eq_getElem?_getD, List.getElem?_eq_getElem (show k < [a0 :: al, t0 :: tl, i0 :: il, frm, rel].length from hlt), Option.getD_some]; exact List.getElem_mem _)
    unfold noCR at h1
    rw [hcr] at h1
    cases h1
   | false =>
    rw [hcr] at HCO
    go_wp2_with (first | (go_at_call 73; refine HCO.out.mono ?_; rintro e w2 ⟨rfl, rfl⟩) | (go_at_call 72; refine (sofail_y _).mono ?_; rintro e w3 ⟨rfl, rfl⟩))
    go_roundw
    case rel => exact ⟨k + 1, by omega, by go_num, trivial, fun j hj => by
     rcases Nat.lt_or_ge j k with h | h
     ·exact HPRE.out j h
     ·obtain rfl : j = k := by omega
      rw [HS.out]
      unfold noCR
      rw [hcr]
      rfl⟩
    case measure => simp [intOf]; omega
  ·obtain rfl : k = 5 := by omega
   have HCR := hI (show [a0 :: al, t0 :: tl, i0 :: il, frm, rel].all noCR = true from by
    simp only [List.all_cons, List.all_nil, Bool.and_true, bA]
    exact ⟨hpre 0 (by omega), hpre 1 (by omega), hpre 2 (by omega), hpre 3 (by omega), hpre 4 (by omega)⟩)
   have h5 := (HNS.out.cell 5).trans rfl
   clear hpre hlt HSS
   go_wp2_with fail
   clear h5
   go_loopw [58] (fun iv wr => ∃ k : Nat, k ≤ hds.length ∧ iv = .int .i64 k ∧ (∀ x ∈ hds.take k, furB x = true) ∧ Below wS.heap.size wS wr) (fun iv _ => hds.length - (intOf iv).toNat)
   case atStart => exact ⟨0, by omega, rfl, fun x hx => by simp at hx, Below.refl _ _⟩
   case round =>
    obtain ⟨k, hk, rfl, hpre2, hbr⟩ := hrel
    have hbw := HBS.out.trans (hbr.mono HBS.out.size)
    by_cases hlt : k < hds.length
    ·obtain ⟨e1, o1, m0, m1, u1, u2, u3, q1, q2, q3, q4, rfl, hgx, hT1, hk0, hk1, hk2, hk3, hk4⟩ := kid_2 HH.out.1 (TrXL.plain _ _ HH.out.2.1) HH.out.2.2 hlt
     have hk0 := Below.keeps hbw _ _ hk0
     have hk1 := Below.keeps hbw _ _ hk1
     have hk2 := Below.keeps hbw _ _ hk2
     have hk3 := Below.keeps hbw _ _ hk3
     have hk4 := Below.keeps hbw _ _ hk4
     have hlt' : (k : Int) < (hds.length : Int) := by omega
     have hal := below_alloc1 wr (B #[S (bs m0), S (bs m1), C q1 u1.length q2, C q3 u2.length q4, S (bs u3)] 44)
     have hn := Blk.new wr 44 #[S (bs m0), S (bs m1), C q1 u1.length q2, C q3 u2.length q4, S (bs u3)]
     obtain ⟨r0, r1, r2, r3, r4, -⟩ := hn.cc
     have hgn : hds[k].nm = [m0, m1] := by rw [hgx]; rfl
     have HFU := hI (fun w => further_any hds[k] m0 m1 u3 (C q1 u1.length q2) (C q3 u2.length q4) w hgn)
     have HBA := hI (hbr.trans (hal.mono hbr.size))
     have HMEM := hI (show hds[k] ∈ hds from List.getElem_mem hlt)
     have HTK := hI (show hds.take (k + 1) = hds.take k ++ [hds[k]] from List.take_succ_eq_append_getElem hlt)
     have HPR := hI hpre2
     have HLT := hI hlt
     generalize hds[k] = hh at *
     clear hn hal hgx hgn hT1 hbr hbw hpre2 hlt
     cases hfu : furB hh with
     | false =>
      rw [hfu] at HFU
      go_wp2_with (first | (go_at_call 74; refine (HFU.out _).mono ?_; rintro e w2 ⟨rfl, hb2⟩; have HB2 := hI (HBS.out.trans ((HBA.out.trans (hb2.mono HBA.out.size)).mono HBS.out.size)); clear hb2) | (go_at_call 72; refine (HFW.out _ HB2.out).mono ?_; rintro e w3 ⟨rfl, rfl⟩))
      refine ⟨rfl, HB2.out, .inr ⟨?_, rfl⟩⟩
      rw [← HRF.out, if_neg]
      intro h
      simp only [bA] at h
      have h1 := List.all_eq_true.1 h.2 hh HMEM.out
      rw [hfu] at h1
      cases h1
     | true =>
      rw [hfu] at HFU
      go_wp2_with (first | (go_at_call 74; refine (HFU.out _).mono ?_; rintro e w2 ⟨rfl, hb2⟩; have HB2 := hI (HBA.out.trans (hb2.mono HBA.out.size)); clear hb2) | (go_at_call 72; refine (sofail_y _).mono ?_; rintro e w3 ⟨rfl, rfl⟩))
      go_roundw
      case rel => exact ⟨k + 1, HLT.out, by go_num, fun x hx => by
       rw [HTK.out, List.mem_append, List.mem_singleton] at hx
       rcases hx with hx | rfl
       ·exact HPR.out x hx
       ·exact hfu, HB2.out⟩
      case measure => have := HLT.out; simp [intOf]; omega
    ·obtain rfl : k = hds.length := by omega
     have HFN := hI (show writeF (⟨a0 :: al, t0 :: tl, i0 :: il, frm, rel, hds, bdy⟩ : Env).tree = R from by
      have h := HRF.out
      rw [if_pos] at h
      ·exact h
      ·simp only [bA]
       exact ⟨HCR.out, List.all_eq_true.2 fun x hx => hpre2 x (by rwa [List.take_length])⟩)
     have hN := HNS.out.below hbr HNS.out.lt
     obtain ⟨z0, z1, z2, z3, z4, z5, z6, z7, z8, z9, z10⟩ := hN.cc
     have HTR2 := hI (HTR.out wr hbw)
     have HMW := hI (HMS.out.below hbr HMS.out.lt)
     have HBW := hI hbw
     clear hN hpre2 hbr hbw hlt HNS HTR HCR HRF HH
     go_wp2_with fail
     refine HTR2.out.mono ?_
     rintro e w3 ⟨g, rfl, hT, hb3⟩
     have HB3 := hI (HBW.out.trans (hb3.mono HBW.out.size))
     have HM3 := hI (HMW.out.below hb3 HMW.out.lt)
     have HWR := hI (HW.out w3 HB3.out _ hT)
     rw [HFN.out] at HWR
     clear hb3 hT HTR2 HW z0 z1 z2 z3 z4 z5 z6 z7 z8 z9 z10
     go_wp2_with fail
     refine HWR.out.mono ?_
     rintro e w4 ⟨hb4, ⟨y, c0', c1', c2', c3', hy, rfl, hTy⟩ | ⟨hy, rfl⟩⟩
     ·have hyn := HON.out y (HFN.out.trans hy)
      obtain ⟨s0, p1, n1, c1, p2, n2, c2, s3, hcs⟩ := trc_four hTy hyn
      injection hcs with e0 hcs; injection hcs with e1 hcs; injection hcs with e2 hcs; injection hcs with e3 hcs
      subst e0 e1 e2 e3
      have HB4 := hI (HB3.out.trans (hb4.mono HB3.out.size))
      have HM4 := hI (HM3.out.below hb4 HM3.out.lt)
      have HY := hI hy
      have HTY := hI hTy
      have HSZ := hI (show w.heap.size + 1 < w3.heap.size from HM3.out.lt)
      clear hb4 hy hTy hyn hcs
      go_wp2_with (first | (go_at_call 47; refine (mustX_ok (.string s0) (C p1 n1 c1) (C p2 n2 c2) (.string s3) rfl rfl rfl rfl _).mono ?_; rintro e w5 ⟨rfl, hb5⟩) | (refine wpList_store (.tmp 2) (.tmp 71) 96 rfl rfl (w.heap.size + 1) 0 _ _ #[.string s0, C p1 n1 c1, C p2 n2 c2, .string s3] rfl rfl (HM4.out.below hb5 HM4.out.lt) ?s0 ?s1 ?s2 ?_))
      case s0 => kernel_rfl
      case s1 => simp [Value.oneCell']
      case s2 => simp
      intro w8 hb8 ho8
      rw [putCells_all #[S ⟨#[]⟩, C none 0 0, C none 0 0, S ⟨#[]⟩] #[.string s0, C p1 n1 c1, C p2 n2 c2, .string s3] rfl] at hb8
      obtain ⟨z0, z1, z2, z3, -⟩ := hb8.cc
      have HBF := hI ((HB4.out.trans (hb5.mono HB4.out.size)).trans (ho8.below (by omega : w.heap.size ≤ w.heap.size + 1)))
      have HTF := hI (((HTY.out.below hb5).only ho8 (fun b hb => by have := hb.1; have := HSZ.out; omega)).imp (Q := fun _ => True) (fun _ _ => trivial))
      clear hb8 ho8 hb5
      go_wp2_with fail
      refine bodyPost_ret (v := .agg #[.string s0, C p1 n1 c1, C p2 n2 c2, .string s3]) (by simp [results, Tryz.results39, go_sem, z0, z1, z2, z3]) rfl ?_
      exact ⟨HBF.out, .inl ⟨y, s0, p1, n1, c1, p2, n2, c2, s3, HY.out, rfl, HTF.out⟩⟩
     ·have HB4 := hI (HB3.out.trans (hb4.mono HB3.out.size))
      have HY := hI hy
      clear hb4 hy
      go_wp2_with (go_at_call 47; refine (mustX_no E 3 _ _ _ _ _).mono ?_; rintro e w5 ⟨rfl, hb5⟩)
      exact ⟨rfl, HB4.out.trans (hb5.mono HB4.out.size), .inr ⟨HY.out, rfl⟩⟩
end
end Go.Proofs.YthboiahdheehkaaGreatDoor
