/- PackedEncodes: Valid, Encode and Zoned return what the chapter specifies. -/
import Derived.Test.YtmmhokcdchhciaaSpoil
import Derived.Test.YtmmhokcdchhciaaWorks
import Derived.Test.YtmmhokcdchhciaaNumber
import Derived.Test.YtmmhokcdchhciaaArg
namespace Go.Proofs.Ytmmhokcdchhciaa
open Go.RowKit Go.Shelf
set_option linter.unusedVariables false

set_option maxRecDepth 100000 in
set_option maxHeartbeats 2000000 in
theorem pencodes_in (w : World) (neg : Bool) (t s : ByteArray) (n : Int) (ht : t.size ≤ maxLen) (hs : s.size ≤ maxLen) :
    Calls Try.prog 4 #[.agg #[.bool neg, .string t], .string s, .int .i64 n] w fun e w' => e = .returned (.bool true) ∧ Chg [] w w' := by
  have HS := hid hs
  have HT := hid ht
  unfold maxLen at ht
  clear hs
  have HNL := hid (numS_len s.data.toList)
  go_enter Try.func4, Try.ntmps4
  go_upto_if 12 with (fail)
  go_cut [] (fun W => ∃ u : ByteArray, u.size ≤ maxLen ∧ W.heap[w.heap.size]? = some (.cells #[.bool neg, .string u] 26 (0, 0)) ∧ Chg [] w W)
  case first =>
    by_cases h40 : t.size > 40
    · go_wp2_with (fail)
      go_meet
      exact ⟨_, by simp [ByteArray.size_extract]; unfold maxLen; omega, al_new rfl, Chg.alloc _ _ _⟩
    · go_wp2_with (fail)
      go_meet
      exact ⟨t, HT.out, al_new rfl, Chg.alloc _ _ _⟩
  case rest =>
    obtain ⟨u, hu, hb, hc⟩ := hcut
    obtain ⟨c0, c1⟩ := two_cells hb
    have HU := hid hu
    have HB := hid hb
    have HC := hid hc
    clear hu hb hc HT ht
    go_wp2_with (first
      | (go_at_call 12; refine (Number_any _ s _ HS.out).mono ?_; rintro e w2 ⟨rfl, hc'⟩; have HC2 := hid ((HC.out.trans hc').trans (Chg.alloc _ _ (.cells #[.bool neg, .string ⟨(numS s.data.toList).toArray⟩] 26))); have HB2 := hid (al_old (o := .cells #[.bool neg, .string ⟨(numS s.data.toList).toArray⟩] 26) (hc'.heap HB.out (by simp))); have HD2 := hid (al_new (w := w2) (o := .cells #[.bool neg, .string ⟨(numS s.data.toList).toArray⟩] 26) rfl); clear hc' c0 c1; obtain ⟨c0, c1⟩ := two_cells HB2.out))
    refine Calls.mono (encodes_yes _ _ _ _ HU.out) ?_
    rintro e w3 ⟨rfl, hc'⟩
    have HC3 := hid (HC2.out.trans hc')
    have HB3 := hid (hc'.heap HB2.out (by simp))
    have HD3 := hid (hc'.heap HD2.out (by simp))
    clear hc' c0 c1 HB2 HD2 HC2
    obtain ⟨c0, c1⟩ := two_cells HB3.out
    go_wp2_with (fail)
    refine Calls.mono (encodes_yes _ _ _ _ HU.out) ?_
    rintro e w4 ⟨rfl, hc'⟩
    have HC4 := hid (HC3.out.trans hc')
    have HD4 := hid (hc'.heap HD3.out (by simp))
    clear hc' c0 c1 HB3 HD3 HC3
    obtain ⟨c0, c1⟩ := two_cells HD4.out
    go_wp2_with (fail)
    refine Calls.mono (encodes_yes _ _ _ _ (by show (numS s.data.toList).length ≤ maxLen; have := HNL.out.2; unfold maxLen; omega)) ?_
    rintro e w5 ⟨rfl, hc'⟩
    have HC5 := hid (HC4.out.trans hc')
    have HD5 := hid (hc'.heap HD4.out (by simp))
    clear hc' c0 c1 HD4 HC4
    obtain ⟨c0, c1⟩ := two_cells HD5.out
    go_wp2_with (fail)
    refine Calls.mono (encodes_yes _ _ _ _ (by show (numS s.data.toList).length ≤ maxLen; have := HNL.out.2; unfold maxLen; omega)) ?_
    rintro e w6 ⟨rfl, hc'⟩
    have HC6 := hid (HC5.out.trans hc')
    clear hc' c0 c1 HD5 HC5
    go_wp2_with (fail)
    refine Calls.mono (works_yes _) ?_
    rintro e w8 ⟨rfl, hc'⟩
    have HC8 := hid (HC6.out.trans hc')
    clear hc'
    go_wp2_with (fail)
    go_returns
    exact ⟨rfl, HC8.out⟩

theorem PackedEncodes_walk (neg : Bool) (t : ByteArray) (a1 : ByteArray) (a2 : Int) (w : World) (w0 : t.size ≤ maxLen) (w1 : a1.size ≤ maxLen) :
    Calls Try.prog 4 #[.agg #[.bool neg, .string t], .string a1, .int .i64 a2] w fun e w' => e = .returned (.bool true) ∧ Below w.heap.size w w' :=
  (pencodes_in w neg t a1 a2 w0 w1).mono fun e w' ⟨he, hc⟩ => ⟨he, hc.nil_below⟩

end Go.Proofs.Ytmmhokcdchhciaa
