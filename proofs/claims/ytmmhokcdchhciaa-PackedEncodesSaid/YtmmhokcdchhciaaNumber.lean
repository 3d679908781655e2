/- Number of the laws of layer 3. -/
import Derived.Test.YtmmhokcdchhciaaSpecG
import Derived.Test.YtmmhokcdchhciaaLaw
import Derived.Test.YtmmhokcdchhciaaApp
namespace Go.Proofs.Ytmmhokcdchhciaa
open Go.RowKit Go.Shelf
set_option linter.unusedVariables false

theorem eb_mod (c : UInt8) : Value.int .u8 (48 + (c.toNat : Int) % 10) = eb (UInt8.ofNat (48 + c.toNat % 10)) := by
  rw [eb, toNat_ofNat (by omega)]; rfl

set_option maxRecDepth 100000 in
set_option maxHeartbeats 1000000 in
theorem Number_any (w : World) (s : ByteArray) (neg : Bool) (hs : s.size ≤ maxLen) :
    Calls Try.prog 12 #[.string s, .bool neg] w fun e w' => e = .returned (.agg #[.bool neg, .string ⟨(numS s.data.toList).toArray⟩]) ∧ Chg [] w w' := by
  unfold maxLen at hs
  have HS := hid (numK_succ s)
  have HF := hid (numK_full s.data.toList)
  have hl : s.data.toList.length = s.size := by simp
  rw [hl] at HF
  clear hl
  have HI := hid (numK_inv s.data.toList)
  have HN := hid (show numS s.data.toList = if numK s.data.toList 31 = [] then [48] else numK s.data.toList 31 from rfl)
  have H0 := hid (numK_zero s.data.toList)
  generalize numS s.data.toList = res at *
  generalize numK s.data.toList = K at *
  go_enter Try.func12, Try.ntmps12
  go_wp2_with fail
  go_loopg [5, 6] 31 (fun g v i wr => ∃ k : Nat, k ≤ 31 ∧ k ≤ s.size ∧ g = 31 - k ∧ i = .int .i64 k ∧ wr.ownsRow (w.heap.size + 1) 5 1 v (K k).length ((K k).map eb) ∧ Chg [] w wr ∧
      Hid (wr.heap[w.heap.size]? = some (.cells #[.bool false, .string ⟨#[]⟩] 26 (0, 0))))
  case atStart =>
    refine ⟨0, by omega, by omega, by omega, rfl, ?_, Chg.alloc _ _ _, al_new rfl⟩
    rw [H0.out]
    exact World.ownsRow_nil _ _ _ _
  case round =>
    obtain ⟨k, hk, hk2, rfl, rfl, hown, hc, hb⟩ := hrel
    have hr := Reads.of_own hown
    have HO := hid hown
    obtain ⟨n, hn⟩ : ∃ n, (K k).length = n := ⟨_, rfl⟩
    have hnk : n ≤ k := by have := (HI.out k).1; omega
    have HNN := hid hn
    obtain ⟨a, cap, rfl⟩ := hr.shape hn
    have HR := hid hr
    clear hr hown hn
    have hsz := lt_of_block hb.out
    by_cases hlt : k < s.size ∧ k < 31
    · obtain ⟨hlt, hlt2⟩ := hlt
      by_cases h48 : K k = [48]
      · have HE := hid (show K (k + 1) = [] ++ [UInt8.ofNat (48 + s[k].toNat % 10)] from by rw [HS.out k hlt]; unfold numStep; rw [if_pos h48])
        have hn1 : n = 1 := by have := HNN.out; rw [h48] at this; simpa using this.symm
        subst hn1
        rcases HR.out.parts HNN.out with ⟨_, h0, _⟩ | ⟨g, of_, cap', hv, _, _, _, hcell⟩
        · omega
        cases hv
        have c0 := hcell.out 0 (by omega)
        rw [h48] at c0
        have c0 : wr.cell? ⟨g, of_, none⟩ = some (.int .u8 48) := c0
        clear h48 hcell
        have hnil : wr.ownsRow (w.heap.size + 1) 5 1 (.slice none 0 0) 0 [] := World.ownsRow_nil _ _ _ _
        go_wp2_with (first | (at_builtin; refine appendN rfl _ _ 22 rfl (w.heap.size + 1) 5 1 (.int .u8 0) Try.underlying22 info_u8 rfl (by decide) 1 [_] rfl hnil rfl rfl (by simp [Value.oneCell']) (by omega) (by omega) ?_; intro v' w' ho' hc'))
        go_roundg (31 - (k + 1))
        case measure => omega
        case rel =>
          rw [eb_mod] at ho'
          refine ⟨k + 1, by omega, by omega, rfl, by go_num, ?_, hc.trans hc', hc'.heap hb.out (by simp [own, Value.ownBlock])⟩
          rw [HE.out]
          simpa using ho'
      · have HE := hid (show K (k + 1) = K k ++ [UInt8.ofNat (48 + s[k].toNat % 10)] from by rw [HS.out k hlt]; unfold numStep; rw [if_neg h48])
        by_cases hn1 : n = 1
        · subst hn1
          rcases HR.out.parts HNN.out with ⟨_, h0, _⟩ | ⟨g, of_, cap', hv, _, _, _, hcell⟩
          · omega
          cases hv
          have c0 : wr.cell? ⟨g, of_, none⟩ = some (.int .u8 (bN (K k) 0 : Nat)) := hcell.out 0 (by omega)
          have e0 : (((bN (K k) 0 : Nat) : Int) == 48) = false := by
            rw [beq_eq_false_iff_ne]
            intro e
            refine h48 ?_
            have hl1 := HNN.out
            rw [bN_get _ 0 (by omega)] at e
            have e9 : (K k)[0]'(by omega) = 48 := UInt8.toNat_inj.1 (by have : ((K k)[0]'(by omega)).toNat = 48 := by omega
                                                                        rw [this]; rfl)
            refine List.ext_getElem (by simpa using hl1) fun i h1 h2 => ?_
            obtain rfl : i = 0 := by simp at h2; omega
            simpa using e9
          have hO := HO.out
          rw [HNN.out] at hO
          clear h48 hcell
          have HO1 := hid hO
          clear hO
          go_wp2_with (first | (at_builtin; refine appendN rfl _ _ 22 rfl (w.heap.size + 1) 5 1 (.int .u8 0) Try.underlying22 info_u8 rfl (by decide) 1 [_] rfl HO1.out rfl rfl (by simp [Value.oneCell']) (by omega) (by omega) ?_; intro v' w' ho' hc'))
          go_roundg (31 - (k + 1))
          case measure => omega
          case rel =>
            rw [eb_mod] at ho'
            refine ⟨k + 1, by omega, by omega, rfl, by go_num, ?_, chg_own hc HO.out (by omega) hc', hc'.heap hb.out (fun e => by have := own_ge HO.out _ e; omega)⟩
            rw [HE.out]
            simpa [HNN.out] using ho'
        · have e0 : ((n : Int) == 1) = false := beq_eq_false_iff_ne.2 (by omega)
          have hO := HO.out
          rw [HNN.out] at hO
          have HO1 := hid hO
          clear hO h48 hn1
          go_wp2_with (first | (at_builtin; refine appendN rfl _ _ 22 rfl (w.heap.size + 1) 5 1 (.int .u8 0) Try.underlying22 info_u8 rfl (by decide) 1 [_] rfl HO1.out rfl rfl (by simp [Value.oneCell']) (by omega) (by omega) ?_; intro v' w' ho' hc'))
          go_roundg (31 - (k + 1))
          case measure => omega
          case rel =>
            rw [eb_mod] at ho'
            refine ⟨k + 1, by omega, by omega, rfl, by go_num, ?_, chg_own hc HO.out (by omega) hc', hc'.heap hb.out (fun e => by have := own_ge HO.out _ e; omega)⟩
            rw [HE.out]
            simpa [HNN.out] using ho'
    · have hK : K 31 = K k := by
        by_cases h : k < s.size
        · obtain rfl : k = 31 := by omega
          rfl
        · exact HF.out k (by omega) hk
      have HK := hid hK
      clear hK
      by_cases hx : k < s.size
      · obtain rfl : k = 31 := by omega
        have hx2 : (31 : Int) < (s.size : Int) := by omega
        clear hlt
        by_cases hn0 : n = 0
        · subst hn0
          have HV := hid (show res = [48] from by rw [HN.out, HK.out, if_pos (List.eq_nil_of_length_eq_zero HNN.out)])
          have hcv := (Reads.new (w := wr) (cs := #[.int .u8 48]) (e := 5) (k := wr.heap.size) (n := 1) [48] rfl rfl rfl (by decide)).str (P := Try.prog) 22 9 5 Try.underlying22 Try.underlying5 Try.underlying9
          have hb2 : (wr.alloc (.cells #[.int .u8 48] 5)).heap[w.heap.size]? = _ := al_old hb.out
          have hcw := hc.trans (Chg.alloc [] wr (.cells #[.int .u8 48] 5))
          obtain ⟨r0', r1'⟩ := two_cells hb.out
          have fr0' : wr.frozen? ⟨w.heap.size, 0, none⟩ = false := frozen_of_row _ _ _ _ _ hb.out
          have fr1' : wr.frozen? ⟨w.heap.size, 1, none⟩ = false := frozen_of_row _ _ _ _ _ hb.out
          obtain ⟨r0, r1⟩ := two_cells hb2
          have fr0 : (wr.alloc (.cells #[.int .u8 48] 5)).frozen? ⟨w.heap.size, 0, none⟩ = false := frozen_of_row _ _ _ _ _ hb2
          have fr1 : (wr.alloc (.cells #[.int .u8 48] 5)).frozen? ⟨w.heap.size, 1, none⟩ = false := frozen_of_row _ _ _ _ _ hb2
          have x0 : (wr.setCell ⟨w.heap.size, 0, none⟩ (.bool neg)).heap[w.heap.size]? = some (.cells #[.bool neg, .string ⟨#[]⟩] 26 (0, 0)) := heap_setCell_same _ w.heap.size 0 _ _ _ hb.out
          have x1 : ((wr.setCell ⟨w.heap.size, 0, none⟩ (.bool neg)).setCell ⟨w.heap.size, 1, none⟩ (.string ⟨#[48]⟩)).heap[w.heap.size]? = some (.cells #[.bool neg, (.string ⟨#[48]⟩)] 26 (0, 0)) := heap_setCell_same _ w.heap.size 1 _ _ _ x0
          have d0 := (two_cells x0).1
          have d1 := (two_cells x1).2
          have XC := hid (((Chg.setCell (L := [w.heap.size]) _ (.inl (by simp)) _).trans (Chg.setCell (L := [w.heap.size]) _ (.inl (by simp)) _)) : Chg [w.heap.size] _ ((wr.setCell ⟨w.heap.size, 0, none⟩ (.bool neg)).setCell ⟨w.heap.size, 1, none⟩ (.string ⟨#[48]⟩)))
          clear hb2 x0
          have X1 := hid x1
          clear x1 d0 d1
          go_wp2_with (fail)
          generalize hW2 : World.setCell _ _ _ = W2 at *
          obtain ⟨q00, q01⟩ := two_cells (al_old (o := .cells #[.int .u8 48] 5) X1.out)
          refine ⟨by simp, ?_⟩
          refine ⟨.agg #[.bool neg, .string ⟨([48] : Bs).toArray⟩], ?_, ?_, ?_⟩
          · simp [results, Try.f12, go_sem, q00, q01]
          · rw [HV.out]
          · exact (hc.then XC.out (by simp)).trans (Chg.alloc _ _ _)
        · have HV := hid (show res = K 31 from by rw [HN.out, HK.out, if_neg (fun e => by have := HNN.out; rw [e] at this; exact hn0 this.symm)])
          have e0 : ((n : Int) == 0) = false := beq_eq_false_iff_ne.2 (by omega)
          have hcv := HR.out.str (P := Try.prog) 22 9 5 Try.underlying22 Try.underlying5 Try.underlying9
          have hb2 := hb.out
          have hcw := hc
          clear hn0
          obtain ⟨r0, r1⟩ := two_cells hb2
          have fr0 : wr.frozen? ⟨w.heap.size, 0, none⟩ = false := frozen_of_row _ _ _ _ _ hb2
          have fr1 : wr.frozen? ⟨w.heap.size, 1, none⟩ = false := frozen_of_row _ _ _ _ _ hb2
          have x0 : (wr.setCell ⟨w.heap.size, 0, none⟩ (.bool neg)).heap[w.heap.size]? = some (.cells #[.bool neg, .string ⟨#[]⟩] 26 (0, 0)) := heap_setCell_same _ w.heap.size 0 _ _ _ hb2
          have x1 : ((wr.setCell ⟨w.heap.size, 0, none⟩ (.bool neg)).setCell ⟨w.heap.size, 1, none⟩ (.string ⟨(K 31).toArray⟩)).heap[w.heap.size]? = some (.cells #[.bool neg, (.string ⟨(K 31).toArray⟩)] 26 (0, 0)) := heap_setCell_same _ w.heap.size 1 _ _ _ x0
          have d0 := (two_cells x0).1
          have d1 := (two_cells x1).2
          have XC := hid (((Chg.setCell (L := [w.heap.size]) _ (.inl (by simp)) _).trans (Chg.setCell (L := [w.heap.size]) _ (.inl (by simp)) _)) : Chg [w.heap.size] _ ((wr.setCell ⟨w.heap.size, 0, none⟩ (.bool neg)).setCell ⟨w.heap.size, 1, none⟩ (.string ⟨(K 31).toArray⟩)))
          clear hb2 x0
          have X1 := hid x1
          clear x1 d0 d1
          go_wp2_with (fail)
          generalize hW2 : World.setCell _ _ _ = W2 at *
          obtain ⟨q00, q01⟩ := two_cells X1.out
          refine ⟨by simp, ?_⟩
          refine ⟨.agg #[.bool neg, .string ⟨(K 31 : Bs).toArray⟩], ?_, ?_, ?_⟩
          · simp [results, Try.f12, go_sem, q00, q01]
          · rw [HV.out]
          · exact hcw.then XC.out (by simp)
      · obtain rfl : k = s.size := by omega
        clear hlt hx
        by_cases hn0 : n = 0
        · subst hn0
          have HV := hid (show res = [48] from by rw [HN.out, HK.out, if_pos (List.eq_nil_of_length_eq_zero HNN.out)])
          have hcv := (Reads.new (w := wr) (cs := #[.int .u8 48]) (e := 5) (k := wr.heap.size) (n := 1) [48] rfl rfl rfl (by decide)).str (P := Try.prog) 22 9 5 Try.underlying22 Try.underlying5 Try.underlying9
          have hb2 : (wr.alloc (.cells #[.int .u8 48] 5)).heap[w.heap.size]? = _ := al_old hb.out
          have hcw := hc.trans (Chg.alloc [] wr (.cells #[.int .u8 48] 5))
          obtain ⟨r0', r1'⟩ := two_cells hb.out
          have fr0' : wr.frozen? ⟨w.heap.size, 0, none⟩ = false := frozen_of_row _ _ _ _ _ hb.out
          have fr1' : wr.frozen? ⟨w.heap.size, 1, none⟩ = false := frozen_of_row _ _ _ _ _ hb.out
          obtain ⟨r0, r1⟩ := two_cells hb2
          have fr0 : (wr.alloc (.cells #[.int .u8 48] 5)).frozen? ⟨w.heap.size, 0, none⟩ = false := frozen_of_row _ _ _ _ _ hb2
          have fr1 : (wr.alloc (.cells #[.int .u8 48] 5)).frozen? ⟨w.heap.size, 1, none⟩ = false := frozen_of_row _ _ _ _ _ hb2
          have x0 : (wr.setCell ⟨w.heap.size, 0, none⟩ (.bool neg)).heap[w.heap.size]? = some (.cells #[.bool neg, .string ⟨#[]⟩] 26 (0, 0)) := heap_setCell_same _ w.heap.size 0 _ _ _ hb.out
          have x1 : ((wr.setCell ⟨w.heap.size, 0, none⟩ (.bool neg)).setCell ⟨w.heap.size, 1, none⟩ (.string ⟨#[48]⟩)).heap[w.heap.size]? = some (.cells #[.bool neg, (.string ⟨#[48]⟩)] 26 (0, 0)) := heap_setCell_same _ w.heap.size 1 _ _ _ x0
          have d0 := (two_cells x0).1
          have d1 := (two_cells x1).2
          have XC := hid (((Chg.setCell (L := [w.heap.size]) _ (.inl (by simp)) _).trans (Chg.setCell (L := [w.heap.size]) _ (.inl (by simp)) _)) : Chg [w.heap.size] _ ((wr.setCell ⟨w.heap.size, 0, none⟩ (.bool neg)).setCell ⟨w.heap.size, 1, none⟩ (.string ⟨#[48]⟩)))
          clear hb2 x0
          have X1 := hid x1
          clear x1 d0 d1
          go_wp2_with (fail)
          generalize hW2 : World.setCell _ _ _ = W2 at *
          obtain ⟨q00, q01⟩ := two_cells (al_old (o := .cells #[.int .u8 48] 5) X1.out)
          refine ⟨by simp, ?_⟩
          refine ⟨.agg #[.bool neg, .string ⟨([48] : Bs).toArray⟩], ?_, ?_, ?_⟩
          · simp [results, Try.f12, go_sem, q00, q01]
          · rw [HV.out]
          · exact (hc.then XC.out (by simp)).trans (Chg.alloc _ _ _)
        · have HV := hid (show res = K s.size from by rw [HN.out, HK.out, if_neg (fun e => by have := HNN.out; rw [e] at this; exact hn0 this.symm)])
          have e0 : ((n : Int) == 0) = false := beq_eq_false_iff_ne.2 (by omega)
          have hcv := HR.out.str (P := Try.prog) 22 9 5 Try.underlying22 Try.underlying5 Try.underlying9
          have hb2 := hb.out
          have hcw := hc
          clear hn0
          obtain ⟨r0, r1⟩ := two_cells hb2
          have fr0 : wr.frozen? ⟨w.heap.size, 0, none⟩ = false := frozen_of_row _ _ _ _ _ hb2
          have fr1 : wr.frozen? ⟨w.heap.size, 1, none⟩ = false := frozen_of_row _ _ _ _ _ hb2
          have x0 : (wr.setCell ⟨w.heap.size, 0, none⟩ (.bool neg)).heap[w.heap.size]? = some (.cells #[.bool neg, .string ⟨#[]⟩] 26 (0, 0)) := heap_setCell_same _ w.heap.size 0 _ _ _ hb2
          have x1 : ((wr.setCell ⟨w.heap.size, 0, none⟩ (.bool neg)).setCell ⟨w.heap.size, 1, none⟩ (.string ⟨(K s.size).toArray⟩)).heap[w.heap.size]? = some (.cells #[.bool neg, (.string ⟨(K s.size).toArray⟩)] 26 (0, 0)) := heap_setCell_same _ w.heap.size 1 _ _ _ x0
          have d0 := (two_cells x0).1
          have d1 := (two_cells x1).2
          have XC := hid (((Chg.setCell (L := [w.heap.size]) _ (.inl (by simp)) _).trans (Chg.setCell (L := [w.heap.size]) _ (.inl (by simp)) _)) : Chg [w.heap.size] _ ((wr.setCell ⟨w.heap.size, 0, none⟩ (.bool neg)).setCell ⟨w.heap.size, 1, none⟩ (.string ⟨(K s.size).toArray⟩)))
          clear hb2 x0
          have X1 := hid x1
          clear x1 d0 d1
          go_wp2_with (fail)
          generalize hW2 : World.setCell _ _ _ = W2 at *
          obtain ⟨q00, q01⟩ := two_cells X1.out
          refine ⟨by simp, ?_⟩
          refine ⟨.agg #[.bool neg, .string ⟨(K s.size : Bs).toArray⟩], ?_, ?_, ?_⟩
          · simp [results, Try.f12, go_sem, q00, q01]
          · rw [HV.out]
          · exact hcw.then XC.out (by simp)

end Go.Proofs.Ytmmhokcdchhciaa
