/-
  DERIVED. GIVEN WITH THE SEED: THE PROGRAM's TIES (one call each: nine closed facts by the kernel) AND EACH ROW's TIE, after the 31st guide's Derived/Test/Toyas{Tie, Card}.lean. No idea stands in it: it is a product of the set-up. Laid BY PROGRAM, IN A SANDBOX (cutbox-door.mjs). By AI agents, Wed Nov 11 2026. No macro, syntax, notation, axiom, sorry.
-/
import Derived.Test.YthboiahdheehkaaGreatDoorRows
import Derived.LaidByTextLater
import Derived.SevenTiedAt
import Derived.LaidSub
import Derived.LaidOnce
namespace Go.Proofs.YthboiahdheehkaaGreatDoor
open Go
set_option maxRecDepth 100000
theorem seatTie1 : Tryz.prog.laidByTextLater [("math/bits.deBruijn32tab", Rows.laid_math_bits_deBruijn32tab), ("math/bits.deBruijn64tab", Rows.laid_math_bits_deBruijn64tab), ("internal/strconv.uint64pow10", Rows.laid_internal_strconv_uint64pow10), ("unicode/utf8.acceptRanges", Rows.laid_unicode_utf8_acceptRanges), ("liaison/api.ErrRange", Rows.laid_liaison_api_ErrRange), ("liaison/api.ErrShort", Rows.laid_liaison_api_ErrShort), ("liaison/api.ErrLong", Rows.laid_liaison_api_ErrLong), ("liaison/api.ErrForm", Rows.laid_liaison_api_ErrForm), ("liaison/api.ErrCheck", Rows.laid_liaison_api_ErrCheck), ("liaison/api.ErrFull", Rows.laid_liaison_api_ErrFull), ("liaison/api.ErrPower", Rows.laid_liaison_api_ErrPower), ("liaison/api.ErrNone", Rows.laid_liaison_api_ErrNone), ("liaison/api.ErrState", Rows.laid_liaison_api_ErrState), ("liaison/api.ErrTwice", Rows.laid_liaison_api_ErrTwice), ("liaison/api.ErrDepth", Rows.laid_liaison_api_ErrDepth), ("liaison/api.ErrExpired", Rows.laid_liaison_api_ErrExpired), ("liaison/api.ErrPanic", Rows.laid_liaison_api_ErrPanic), ("liaison/api.ErrProtocol", Rows.laid_liaison_api_ErrProtocol), ("liaison/binding.kinds", Rows.laid_liaison_binding_kinds), ("liaison/binding.states", Rows.laid_liaison_binding_states), ("liaison/binding.codes", Rows.laid_liaison_binding_codes), ("liaison/binding.protocols", Rows.laid_liaison_binding_protocols)] [.data, .data, .data, .data, .sentinel, .sentinel, .sentinel, .sentinel, .sentinel, .sentinel, .sentinel, .sentinel, .sentinel, .sentinel, .sentinel, .sentinel, .sentinel, .sentinel, .widerDeep, .widerDeep, .widerDeep, .widerDeep] true :=
  Program.laidByTextLater_by_one 320 8 65 (by kernel_rfl) (by kernel_rfl) (by kernel_rfl) (by kernel_rfl) (by kernel_rfl) (by kernel_rfl) (fun _ _ => by kernel_rfl)
theorem seatTie2 : Tryz.prog.laidByTextLater [("math/bits.deBruijn32tab", Rows.laid_math_bits_deBruijn32tab), ("math/bits.deBruijn64tab", Rows.laid_math_bits_deBruijn64tab), ("internal/strconv.uint64pow10", Rows.laid_internal_strconv_uint64pow10), ("unicode/utf8.acceptRanges", Rows.laid_unicode_utf8_acceptRanges), ("liaison/api.ErrRange", Rows.laid_liaison_api_ErrRange), ("liaison/api.ErrShort", Rows.laid_liaison_api_ErrShort), ("liaison/api.ErrLong", Rows.laid_liaison_api_ErrLong), ("liaison/api.ErrForm", Rows.laid_liaison_api_ErrForm), ("liaison/api.ErrCheck", Rows.laid_liaison_api_ErrCheck), ("liaison/api.ErrFull", Rows.laid_liaison_api_ErrFull), ("liaison/api.ErrPower", Rows.laid_liaison_api_ErrPower), ("liaison/api.ErrNone", Rows.laid_liaison_api_ErrNone), ("liaison/api.ErrState", Rows.laid_liaison_api_ErrState), ("liaison/api.ErrTwice", Rows.laid_liaison_api_ErrTwice), ("liaison/api.ErrDepth", Rows.laid_liaison_api_ErrDepth), ("liaison/api.ErrExpired", Rows.laid_liaison_api_ErrExpired), ("liaison/api.ErrPanic", Rows.laid_liaison_api_ErrPanic), ("liaison/api.ErrProtocol", Rows.laid_liaison_api_ErrProtocol)] [.data, .data, .data, .data, .sentinel, .sentinel, .sentinel, .sentinel, .sentinel, .sentinel, .sentinel, .sentinel, .sentinel, .sentinel, .sentinel, .sentinel, .sentinel, .sentinel] true :=
  Program.laidByTextLater_by_one 320 8 65 (by kernel_rfl) (by kernel_rfl) (by kernel_rfl) (by kernel_rfl) (by kernel_rfl) (by kernel_rfl) (fun _ _ => by kernel_rfl)
theorem pin_laid_unicode_utf8_first : Tryz.pinned.checked.prog.pinnedFits "unicode/utf8.first" = true := by kernel_rfl
theorem noOwnUnsafe : Tryz.pinned.checked.prog.headLifts.contains "ownunsafe" = false := by kernel_rfl
theorem fits1 : Tryz.pinned.checked.prog.listedFits [("math/bits.deBruijn32tab", Rows.laid_math_bits_deBruijn32tab), ("math/bits.deBruijn64tab", Rows.laid_math_bits_deBruijn64tab), ("internal/strconv.uint64pow10", Rows.laid_internal_strconv_uint64pow10), ("unicode/utf8.acceptRanges", Rows.laid_unicode_utf8_acceptRanges), ("liaison/api.ErrRange", Rows.laid_liaison_api_ErrRange), ("liaison/api.ErrShort", Rows.laid_liaison_api_ErrShort), ("liaison/api.ErrLong", Rows.laid_liaison_api_ErrLong), ("liaison/api.ErrForm", Rows.laid_liaison_api_ErrForm), ("liaison/api.ErrCheck", Rows.laid_liaison_api_ErrCheck), ("liaison/api.ErrFull", Rows.laid_liaison_api_ErrFull), ("liaison/api.ErrPower", Rows.laid_liaison_api_ErrPower), ("liaison/api.ErrNone", Rows.laid_liaison_api_ErrNone), ("liaison/api.ErrState", Rows.laid_liaison_api_ErrState), ("liaison/api.ErrTwice", Rows.laid_liaison_api_ErrTwice), ("liaison/api.ErrDepth", Rows.laid_liaison_api_ErrDepth), ("liaison/api.ErrExpired", Rows.laid_liaison_api_ErrExpired), ("liaison/api.ErrPanic", Rows.laid_liaison_api_ErrPanic), ("liaison/api.ErrProtocol", Rows.laid_liaison_api_ErrProtocol), ("liaison/binding.kinds", Rows.laid_liaison_binding_kinds), ("liaison/binding.states", Rows.laid_liaison_binding_states), ("liaison/binding.codes", Rows.laid_liaison_binding_codes), ("liaison/binding.protocols", Rows.laid_liaison_binding_protocols), ("unicode/utf8.first", Rows.laid_unicode_utf8_first)] = true := by
  unfold Program.listedFits
  rw [noOwnUnsafe]
  kernel_rfl
theorem tie : Tryz.prog.laidByTextLater [("math/bits.deBruijn32tab", Rows.laid_math_bits_deBruijn32tab), ("math/bits.deBruijn64tab", Rows.laid_math_bits_deBruijn64tab), ("internal/strconv.uint64pow10", Rows.laid_internal_strconv_uint64pow10), ("unicode/utf8.acceptRanges", Rows.laid_unicode_utf8_acceptRanges), ("liaison/api.ErrRange", Rows.laid_liaison_api_ErrRange), ("liaison/api.ErrShort", Rows.laid_liaison_api_ErrShort), ("liaison/api.ErrLong", Rows.laid_liaison_api_ErrLong), ("liaison/api.ErrForm", Rows.laid_liaison_api_ErrForm), ("liaison/api.ErrCheck", Rows.laid_liaison_api_ErrCheck), ("liaison/api.ErrFull", Rows.laid_liaison_api_ErrFull), ("liaison/api.ErrPower", Rows.laid_liaison_api_ErrPower), ("liaison/api.ErrNone", Rows.laid_liaison_api_ErrNone), ("liaison/api.ErrState", Rows.laid_liaison_api_ErrState), ("liaison/api.ErrTwice", Rows.laid_liaison_api_ErrTwice), ("liaison/api.ErrDepth", Rows.laid_liaison_api_ErrDepth), ("liaison/api.ErrExpired", Rows.laid_liaison_api_ErrExpired), ("liaison/api.ErrPanic", Rows.laid_liaison_api_ErrPanic), ("liaison/api.ErrProtocol", Rows.laid_liaison_api_ErrProtocol), ("liaison/binding.kinds", Rows.laid_liaison_binding_kinds), ("liaison/binding.states", Rows.laid_liaison_binding_states), ("liaison/binding.codes", Rows.laid_liaison_binding_codes), ("liaison/binding.protocols", Rows.laid_liaison_binding_protocols)] [.data, .data, .data, .data, .sentinel, .sentinel, .sentinel, .sentinel, .sentinel, .sentinel, .sentinel, .sentinel, .sentinel, .sentinel, .sentinel, .sentinel, .sentinel, .sentinel, .widerDeep, .widerDeep, .widerDeep, .widerDeep] true :=
  Program.laidByTextLater.sub seatTie1 ["math/bits.deBruijn32tab", "math/bits.deBruijn64tab", "internal/strconv.uint64pow10", "unicode/utf8.acceptRanges", "liaison/api.ErrRange", "liaison/api.ErrShort", "liaison/api.ErrLong", "liaison/api.ErrForm", "liaison/api.ErrCheck", "liaison/api.ErrFull", "liaison/api.ErrPower", "liaison/api.ErrNone", "liaison/api.ErrState", "liaison/api.ErrTwice", "liaison/api.ErrDepth", "liaison/api.ErrExpired", "liaison/api.ErrPanic", "liaison/api.ErrProtocol", "liaison/binding.kinds", "liaison/binding.states", "liaison/binding.codes", "liaison/binding.protocols"] (by kernel_rfl) (by kernel_rfl)
theorem bindingUnlike_row_tie : Rows.bindingUnlikeRow.laidByTextAt .later Tryz.pinned [.data, .data, .data, .data, .sentinel, .sentinel, .sentinel, .sentinel, .sentinel, .sentinel, .sentinel, .sentinel, .sentinel, .sentinel, .sentinel, .sentinel, .sentinel, .sentinel, .widerDeep, .widerDeep, .widerDeep, .widerDeep, .pinned] true :=
  OpenClaim.laidByTextAt_pinned rfl rfl tie rfl rfl rfl rfl (fun y hy _e => by
    simp only [Rows.bindingUnlikeRow, List.zip_cons_cons, List.zip_nil_right, List.mem_cons, List.mem_nil_iff, or_false] at hy
    rcases hy with rfl | rfl | rfl | rfl | rfl | rfl | rfl | rfl | rfl | rfl | rfl | rfl | rfl | rfl | rfl | rfl | rfl | rfl | rfl | rfl | rfl | rfl | rfl
    · cases _e
    · cases _e
    · cases _e
    · cases _e
    · cases _e
    · cases _e
    · cases _e
    · cases _e
    · cases _e
    · cases _e
    · cases _e
    · cases _e
    · cases _e
    · cases _e
    · cases _e
    · cases _e
    · cases _e
    · cases _e
    · cases _e
    · cases _e
    · cases _e
    · cases _e
    · exact ⟨pin_laid_unicode_utf8_first, by kernel_rfl⟩) fits1
theorem bindingWraps_row_tie : Rows.bindingWrapsRow.laidByTextAt .later Tryz.pinned [.data, .data, .data, .data, .sentinel, .sentinel, .sentinel, .sentinel, .sentinel, .sentinel, .sentinel, .sentinel, .sentinel, .sentinel, .sentinel, .sentinel, .sentinel, .sentinel, .widerDeep, .widerDeep, .widerDeep, .widerDeep, .pinned] true :=
  OpenClaim.laidByTextAt_pinned rfl rfl tie rfl rfl rfl rfl (fun y hy _e => by
    simp only [Rows.bindingWrapsRow, List.zip_cons_cons, List.zip_nil_right, List.mem_cons, List.mem_nil_iff, or_false] at hy
    rcases hy with rfl | rfl | rfl | rfl | rfl | rfl | rfl | rfl | rfl | rfl | rfl | rfl | rfl | rfl | rfl | rfl | rfl | rfl | rfl | rfl | rfl | rfl | rfl
    · cases _e
    · cases _e
    · cases _e
    · cases _e
    · cases _e
    · cases _e
    · cases _e
    · cases _e
    · cases _e
    · cases _e
    · cases _e
    · cases _e
    · cases _e
    · cases _e
    · cases _e
    · cases _e
    · cases _e
    · cases _e
    · cases _e
    · cases _e
    · cases _e
    · cases _e
    · exact ⟨pin_laid_unicode_utf8_first, by kernel_rfl⟩) fits1
theorem fits2 : Tryz.pinned.checked.prog.listedFits [("math/bits.deBruijn32tab", Rows.laid_math_bits_deBruijn32tab), ("math/bits.deBruijn64tab", Rows.laid_math_bits_deBruijn64tab), ("internal/strconv.uint64pow10", Rows.laid_internal_strconv_uint64pow10), ("unicode/utf8.acceptRanges", Rows.laid_unicode_utf8_acceptRanges), ("liaison/api.ErrRange", Rows.laid_liaison_api_ErrRange), ("liaison/api.ErrShort", Rows.laid_liaison_api_ErrShort), ("liaison/api.ErrLong", Rows.laid_liaison_api_ErrLong), ("liaison/api.ErrForm", Rows.laid_liaison_api_ErrForm), ("liaison/api.ErrCheck", Rows.laid_liaison_api_ErrCheck), ("liaison/api.ErrFull", Rows.laid_liaison_api_ErrFull), ("liaison/api.ErrPower", Rows.laid_liaison_api_ErrPower), ("liaison/api.ErrNone", Rows.laid_liaison_api_ErrNone), ("liaison/api.ErrState", Rows.laid_liaison_api_ErrState), ("liaison/api.ErrTwice", Rows.laid_liaison_api_ErrTwice), ("liaison/api.ErrDepth", Rows.laid_liaison_api_ErrDepth), ("liaison/api.ErrExpired", Rows.laid_liaison_api_ErrExpired), ("liaison/api.ErrPanic", Rows.laid_liaison_api_ErrPanic), ("liaison/api.ErrProtocol", Rows.laid_liaison_api_ErrProtocol), ("unicode/utf8.first", Rows.laid_unicode_utf8_first)] = true := by
  unfold Program.listedFits
  rw [noOwnUnsafe]
  kernel_rfl
theorem tie2 : Tryz.prog.laidByTextLater [("math/bits.deBruijn32tab", Rows.laid_math_bits_deBruijn32tab), ("math/bits.deBruijn64tab", Rows.laid_math_bits_deBruijn64tab), ("internal/strconv.uint64pow10", Rows.laid_internal_strconv_uint64pow10), ("unicode/utf8.acceptRanges", Rows.laid_unicode_utf8_acceptRanges), ("liaison/api.ErrRange", Rows.laid_liaison_api_ErrRange), ("liaison/api.ErrShort", Rows.laid_liaison_api_ErrShort), ("liaison/api.ErrLong", Rows.laid_liaison_api_ErrLong), ("liaison/api.ErrForm", Rows.laid_liaison_api_ErrForm), ("liaison/api.ErrCheck", Rows.laid_liaison_api_ErrCheck), ("liaison/api.ErrFull", Rows.laid_liaison_api_ErrFull), ("liaison/api.ErrPower", Rows.laid_liaison_api_ErrPower), ("liaison/api.ErrNone", Rows.laid_liaison_api_ErrNone), ("liaison/api.ErrState", Rows.laid_liaison_api_ErrState), ("liaison/api.ErrTwice", Rows.laid_liaison_api_ErrTwice), ("liaison/api.ErrDepth", Rows.laid_liaison_api_ErrDepth), ("liaison/api.ErrExpired", Rows.laid_liaison_api_ErrExpired), ("liaison/api.ErrPanic", Rows.laid_liaison_api_ErrPanic), ("liaison/api.ErrProtocol", Rows.laid_liaison_api_ErrProtocol)] [.data, .data, .data, .data, .sentinel, .sentinel, .sentinel, .sentinel, .sentinel, .sentinel, .sentinel, .sentinel, .sentinel, .sentinel, .sentinel, .sentinel, .sentinel, .sentinel] true :=
  Program.laidByTextLater.sub seatTie2 ["math/bits.deBruijn32tab", "math/bits.deBruijn64tab", "internal/strconv.uint64pow10", "unicode/utf8.acceptRanges", "liaison/api.ErrRange", "liaison/api.ErrShort", "liaison/api.ErrLong", "liaison/api.ErrForm", "liaison/api.ErrCheck", "liaison/api.ErrFull", "liaison/api.ErrPower", "liaison/api.ErrNone", "liaison/api.ErrState", "liaison/api.ErrTwice", "liaison/api.ErrDepth", "liaison/api.ErrExpired", "liaison/api.ErrPanic", "liaison/api.ErrProtocol"] (by kernel_rfl) (by kernel_rfl)
theorem soapReplies_row_tie : Rows.soapRepliesRow.laidByTextAt .later Tryz.pinned [.data, .data, .data, .data, .sentinel, .sentinel, .sentinel, .sentinel, .sentinel, .sentinel, .sentinel, .sentinel, .sentinel, .sentinel, .sentinel, .sentinel, .sentinel, .sentinel, .pinned] true :=
  OpenClaim.laidByTextAt_pinned rfl rfl tie2 rfl rfl rfl rfl (fun y hy _e => by
    simp only [Rows.soapRepliesRow, List.zip_cons_cons, List.zip_nil_right, List.mem_cons, List.mem_nil_iff, or_false] at hy
    rcases hy with rfl | rfl | rfl | rfl | rfl | rfl | rfl | rfl | rfl | rfl | rfl | rfl | rfl | rfl | rfl | rfl | rfl | rfl | rfl
    · cases _e
    · cases _e
    · cases _e
    · cases _e
    · cases _e
    · cases _e
    · cases _e
    · cases _e
    · cases _e
    · cases _e
    · cases _e
    · cases _e
    · cases _e
    · cases _e
    · cases _e
    · cases _e
    · cases _e
    · cases _e
    · exact ⟨pin_laid_unicode_utf8_first, by kernel_rfl⟩) fits2
theorem soapBacks_row_tie : Rows.soapBacksRow.laidByTextAt .later Tryz.pinned [.data, .data, .data, .data, .sentinel, .sentinel, .sentinel, .sentinel, .sentinel, .sentinel, .sentinel, .sentinel, .sentinel, .sentinel, .sentinel, .sentinel, .sentinel, .sentinel, .pinned] true :=
  OpenClaim.laidByTextAt_pinned rfl rfl tie2 rfl rfl rfl rfl (fun y hy _e => by
    simp only [Rows.soapBacksRow, List.zip_cons_cons, List.zip_nil_right, List.mem_cons, List.mem_nil_iff, or_false] at hy
    rcases hy with rfl | rfl | rfl | rfl | rfl | rfl | rfl | rfl | rfl | rfl | rfl | rfl | rfl | rfl | rfl | rfl | rfl | rfl | rfl
    · cases _e
    · cases _e
    · cases _e
    · cases _e
    · cases _e
    · cases _e
    · cases _e
    · cases _e
    · cases _e
    · cases _e
    · cases _e
    · cases _e
    · cases _e
    · cases _e
    · cases _e
    · cases _e
    · cases _e
    · cases _e
    · exact ⟨pin_laid_unicode_utf8_first, by kernel_rfl⟩) fits2
theorem bindingUnlikeUpto_row_tie : Rows.bindingUnlikeUptoRow.laidByTextAt .later Tryz.pinned [.data, .data, .data, .data, .sentinel, .sentinel, .sentinel, .sentinel, .sentinel, .sentinel, .sentinel, .sentinel, .sentinel, .sentinel, .sentinel, .sentinel, .sentinel, .sentinel, .widerDeep, .widerDeep, .widerDeep, .widerDeep, .pinned] true :=
  OpenClaim.laidByTextAt_pinned rfl rfl tie rfl rfl rfl rfl (fun y hy _e => by
    simp only [Rows.bindingUnlikeUptoRow, List.zip_cons_cons, List.zip_nil_right, List.mem_cons, List.mem_nil_iff, or_false] at hy
    rcases hy with rfl | rfl | rfl | rfl | rfl | rfl | rfl | rfl | rfl | rfl | rfl | rfl | rfl | rfl | rfl | rfl | rfl | rfl | rfl | rfl | rfl | rfl | rfl
    · cases _e
    · cases _e
    · cases _e
    · cases _e
    · cases _e
    · cases _e
    · cases _e
    · cases _e
    · cases _e
    · cases _e
    · cases _e
    · cases _e
    · cases _e
    · cases _e
    · cases _e
    · cases _e
    · cases _e
    · cases _e
    · cases _e
    · cases _e
    · cases _e
    · cases _e
    · exact ⟨pin_laid_unicode_utf8_first, by kernel_rfl⟩) fits1
theorem soapRepliesUpto_row_tie : Rows.soapRepliesUptoRow.laidByTextAt .later Tryz.pinned [.data, .data, .data, .data, .sentinel, .sentinel, .sentinel, .sentinel, .sentinel, .sentinel, .sentinel, .sentinel, .sentinel, .sentinel, .sentinel, .sentinel, .sentinel, .sentinel, .pinned] true :=
  OpenClaim.laidByTextAt_pinned rfl rfl tie2 rfl rfl rfl rfl (fun y hy _e => by
    simp only [Rows.soapRepliesUptoRow, List.zip_cons_cons, List.zip_nil_right, List.mem_cons, List.mem_nil_iff, or_false] at hy
    rcases hy with rfl | rfl | rfl | rfl | rfl | rfl | rfl | rfl | rfl | rfl | rfl | rfl | rfl | rfl | rfl | rfl | rfl | rfl | rfl
    · cases _e
    · cases _e
    · cases _e
    · cases _e
    · cases _e
    · cases _e
    · cases _e
    · cases _e
    · cases _e
    · cases _e
    · cases _e
    · cases _e
    · cases _e
    · cases _e
    · cases _e
    · cases _e
    · cases _e
    · cases _e
    · exact ⟨pin_laid_unicode_utf8_first, by kernel_rfl⟩) fits2
theorem soapBacksUpto_row_tie : Rows.soapBacksUptoRow.laidByTextAt .later Tryz.pinned [.data, .data, .data, .data, .sentinel, .sentinel, .sentinel, .sentinel, .sentinel, .sentinel, .sentinel, .sentinel, .sentinel, .sentinel, .sentinel, .sentinel, .sentinel, .sentinel, .pinned] true :=
  OpenClaim.laidByTextAt_pinned rfl rfl tie2 rfl rfl rfl rfl (fun y hy _e => by
    simp only [Rows.soapBacksUptoRow, List.zip_cons_cons, List.zip_nil_right, List.mem_cons, List.mem_nil_iff, or_false] at hy
    rcases hy with rfl | rfl | rfl | rfl | rfl | rfl | rfl | rfl | rfl | rfl | rfl | rfl | rfl | rfl | rfl | rfl | rfl | rfl | rfl
    · cases _e
    · cases _e
    · cases _e
    · cases _e
    · cases _e
    · cases _e
    · cases _e
    · cases _e
    · cases _e
    · cases _e
    · cases _e
    · cases _e
    · cases _e
    · cases _e
    · cases _e
    · cases _e
    · cases _e
    · cases _e
    · exact ⟨pin_laid_unicode_utf8_first, by kernel_rfl⟩) fits2
theorem bindingWrapsUpto_row_tie : Rows.bindingWrapsUptoRow.laidByTextAt .later Tryz.pinned [.data, .data, .data, .data, .sentinel, .sentinel, .sentinel, .sentinel, .sentinel, .sentinel, .sentinel, .sentinel, .sentinel, .sentinel, .sentinel, .sentinel, .sentinel, .sentinel, .widerDeep, .widerDeep, .widerDeep, .widerDeep, .pinned] true :=
  OpenClaim.laidByTextAt_pinned rfl rfl tie rfl rfl rfl rfl (fun y hy _e => by
    simp only [Rows.bindingWrapsUptoRow, List.zip_cons_cons, List.zip_nil_right, List.mem_cons, List.mem_nil_iff, or_false] at hy
    rcases hy with rfl | rfl | rfl | rfl | rfl | rfl | rfl | rfl | rfl | rfl | rfl | rfl | rfl | rfl | rfl | rfl | rfl | rfl | rfl | rfl | rfl | rfl | rfl
    · cases _e
    · cases _e
    · cases _e
    · cases _e
    · cases _e
    · cases _e
    · cases _e
    · cases _e
    · cases _e
    · cases _e
    · cases _e
    · cases _e
    · cases _e
    · cases _e
    · cases _e
    · cases _e
    · cases _e
    · cases _e
    · cases _e
    · cases _e
    · cases _e
    · cases _e
    · exact ⟨pin_laid_unicode_utf8_first, by kernel_rfl⟩) fits1
end Go.Proofs.YthboiahdheehkaaGreatDoor
