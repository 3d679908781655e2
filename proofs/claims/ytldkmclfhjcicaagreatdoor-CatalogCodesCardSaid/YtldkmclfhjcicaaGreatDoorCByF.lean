import Derived.Lib.AppendStr
import Derived.WalkSpells
import Derived.Outline
import Derived.Test.YtldkmclfhjcicaaGreatDoorProg
import Derived.Test.YtldkmclfhjcicaaGreatDoorFr
import Derived.Test.YtldkmclfhjcicaaGreatDoorCatP
import Derived.Test.YtldkmclfhjcicaaGreatDoorCMem
import Derived.Test.YtldkmclfhjcicaaGreatDoorCMv

namespace Go.Proofs.YtldkmclfhjcicaaGreatDoor
open Go.RowKit
set_option linter.unusedVariables false
set_option linter.unusedSimpArgs false

def OwY (w : World) (B : Nat) (v : Value) (l : Bs) : Prop := w.ownsRow B 5 1 v l.length (l.map eb)
section
variable {w w' : World} {B : Nat} {v : Value} {l : Bs}
theorem OwY.nil (w : World) (B : Nat) : OwY w B (.slice none 0 0) [] := World.ownsRow_nil _ _ _ _
theorem OwY.keep (h : OwY w B v l) {L : List Nat} (hc : Chg L w w') (hn : ∀ j ∈ own v, j ∉ L) : OwY w' B v l := ownK_keep h hc hn
theorem OwY.keep1 (h : OwY w B v l) (hc : Chg [] w w') : OwY w' B v l := ownK_keep1 h hc
theorem OwY.base {B' : Nat} (h : OwY w B v l) (hB : B' ≤ B) : OwY w B' v l := ownK_base h hB
theorem OwY.ge (h : OwY w B v l) : ∀ j ∈ own v, B ≤ j := ownK_ge h
theorem OwY.lt (h : OwY w B v l) : ∀ j ∈ own v, j < w.heap.size := ownK_lt h
theorem OwY.chg {w0 : World} (hc : Chg [] w0 w) (h : OwY w B v l) (hB : w0.heap.size ≤ B) (hc' : Chg (own v) w w') : Chg [] w0 w' := chg_ownK hc h hB hc'
theorem OwY.reads (h : OwY w B v l) : Reads w v l := Reads.of_own h
theorem OwY.shape (h : OwY w B v l) : ∃ a cap, v = .slice a l.length cap := (RdK.of_own h).shape
theorem OwY.ne (h : OwY w B v l) {b : Nat} {cs : Array Value} {T : TypeId} {fr : Nat × Nat} (hb : w.heap[b]? = some (.cells cs T fr)) (hT : T ≠ 5) : b ∉ own v := by
  intro hj
  rcases h.2 with ⟨rfl, _⟩ | ⟨g, cap, cur, rfl, _, hg, _⟩
  · simp [own, Value.ownBlock] at hj
  · simp [own, Value.ownBlock] at hj
    subst hj
    rw [hb] at hg
    cases hg
    exact hT rfl
end
theorem eb_one (l : Bs) : ∀ u ∈ l.map eb, u.oneCell' = true := by intro u hu; obtain ⟨x, _, rfl⟩ := List.mem_map.1 hu; rfl
theorem info_byte : (Tryz.prog.info? 5).map (fun i => (i.zero, i.size, i.bytes)) = some (some (.int .u8 0), 1, 1) := by kernel_rfl
theorem byteI_val (n : Int) : ((byteI n).toNat : Int) = n % 256 := by
  unfold byteI
  rw [UInt8.toNat_ofNat']
  omega
theorem eb_byteI (n : Int) : eb (byteI n) = .int .u8 (n % 256) := by unfold eb; rw [byteI_val]

theorem apB {ops : Array Oper} {rest : List Oper} {o : Oper} {a : Act} {Q : Exit → Act → World → Prop} {wr : World} (hgd : o.guard = none) (s x : Operand)
    (ho : o.op = .call { callee := .builtin .append, args := #[s, x], argTypes := #[27, 27] }) (B m : Nat) (news : List Value) (bs : Bs) (hnb : news = bs.map eb) (hm : bs.length = m)
    {v : Value} {l : Bs} (hown : OwY wr B v l) (hs : a.eval s = v) (g0 : Nat) (hg0 : g0 = wr.heap.size) (hx : a.eval x = .slice (some ⟨g0, 0, none⟩) m m)
    (hn : l.length + m ≤ 1000000000) (hB : B ≤ wr.heap.size)
    (h : ∀ v' w', OwY w' B v' (l ++ bs) → Chg (own v) wr w' → wpList Tryz.prog ops Q rest (a.put o.dst v') w') : wpList Tryz.prog ops Q (o :: rest) a (wr.alloc (.cells news.toArray 5)) := by
  subst hnb hm
  refine appendNK hgd s x 27 ho B 5 1 1 (by decide) _ Tryz.underlying27 info_byte rfl (by decide) bs.length (bs.map eb) (by simp) g0 hg0 hown hs hx (eb_one bs) hn hB ?_
  intro v' w' ho' hc'
  refine h v' w' ?_ hc'
  unfold OwY
  rw [List.length_append, List.map_append]; exact ho'
theorem apS {ops : Array Oper} {rest : List Oper} {o : Oper} {a : Act} {Q : Exit → Act → World → Prop} {wr : World} (hgd : o.guard = none) (s x : Operand)
    (ho : o.op = .call { callee := .builtin .append, args := #[s, x], argTypes := #[27, 9] }) (B : Nat) (S : ByteArray)
    {v : Value} {l : Bs} (hown : OwY wr B v l) (hs : a.eval s = v) (hx : a.eval x = .string S)
    (hn : l.length + S.size ≤ 1000000000) (hB : B ≤ wr.heap.size)
    (h : ∀ v' w', OwY w' B v' (l ++ S.data.toList) → Chg (own v) wr w' → wpList Tryz.prog ops Q rest (a.put o.dst v') w') : wpList Tryz.prog ops Q (o :: rest) a wr := by
  obtain ⟨i, h1, h2, h3, h4⟩ := info_parts info_byte
  refine Lib.wpList_append_own_string _ hgd s x 27 9 ho B 5 i Tryz.underlying27 Tryz.underlying9 h1 h2 h3 h4 v l.length (l.map eb) hs hown S hx (by unfold maxLen; omega) (by omega) hB ?_
  intro v' w' ho' hg _
  refine h v' w' ?_ ⟨hg.os, hg.tape, hg.output, hg.size, fun k hk hkn => hg.block k hk (fun e => hkn (by simp [own, ← e]))⟩
  unfold OwY
  rw [List.length_append, List.map_append, bs_len]; exact ho'
set_option maxHeartbeats 1000000 in
theorem half_any (w : World) (B : Nat) (v : Value) (l : Bs) (n : Int) (h0 : 0 ≤ n) (h1 : n < 65536) (ho : OwY w B v l) (hl : l.length ≤ 1000000) (hB : B ≤ w.heap.size) :
    Calls Tryz.prog 32 #[v, .int .i64 n] w fun e w' => ∃ u, e = .returned u ∧ OwY w' B u (l ++ twoB n) ∧ Chg (own v) w w' := by
  have HO := hid ho
  have e1 : [Value.int .u8 (n / 256), Value.int .u8 (n % 256)] = (twoB n).map eb := by
    unfold twoB; rw [List.map_cons, List.map_cons, List.map_nil, eb_byteI, eb_byteI, Int.emod_eq_of_lt (a := n / 256) (by omega) (by omega)]
  have HE := hid e1
  clear ho e1
  have hs : IntKind.i64.wrap (n / 256) = n / 256 := by rw [IntKind.wrap_i64]; omega
  have hd : 0 ≤ n / 256 ∧ n / 256 < 256 := by omega
  obtain ⟨hd1, hd2⟩ := hd
  go_enter Tryz.func32, Tryz.ntmps32
  go_wp2_with (at_builtin; refine apB rfl _ _ rfl B 2 [_, _] (twoB n) HE.out rfl HO.out rfl _ rfl rfl (by omega) hB ?_; rintro v' w' ho' hc')
  go_ret
  exact ⟨_, rfl, ho', hc'⟩

structure GrB (B : Nat) (w w' : World) : Prop where
  os : w'.os = w.os
  tape : w'.tape = w.tape
  output : w'.output = w.output
  size : w.heap.size ≤ w'.heap.size
  block : ∀ k, k < w.heap.size → (k < B ∨ ∀ cs fr, w.heap[k]? = some (.cells cs 5 fr) → cs.size < 2) → w'.heap[k]? = w.heap[k]?
section
variable {w w' w'' : World} {B : Nat}
theorem GrB.refl (B : Nat) (w : World) : GrB B w w := ⟨rfl, rfl, rfl, Nat.le_refl _, fun _ _ _ => rfl⟩
theorem GrB.trans (h : GrB B w w') (k : GrB B w' w'') : GrB B w w'' :=
  ⟨k.os.trans h.os, k.tape.trans h.tape, k.output.trans h.output, Nat.le_trans h.size k.size, fun i hi hn => by
    have h1 := h.block i hi hn
    refine (k.block i (Nat.lt_of_lt_of_le hi h.size) ?_).trans h1
    rcases hn with hn | hn
    · exact .inl hn
    · exact .inr (by rw [h1]; exact hn)⟩
theorem GrB.of_chg (h : Chg [] w w') : GrB B w w' := ⟨h.os, h.tape, h.output, h.size, fun k hk _ => h.block k hk (by simp)⟩
theorem GrB.of_own {v : Value} {l : Bs} (ho : OwY w B v l) (hl : 2 ≤ l.length) (h : Chg (own v) w w') : GrB B w w' :=
  ⟨h.os, h.tape, h.output, h.size, fun k hk hn => h.block k hk (fun hj => by
    rcases hn with hn | hn
    · have := ho.ge k hj; omega
    · rcases ho.2 with ⟨rfl, _⟩ | ⟨g, cap, cur, rfl, _, hg, hnc, _, hsz, _⟩
      · simp [own, Value.ownBlock] at hj
      · simp [own, Value.ownBlock] at hj
        subst hj
        have := hn _ _ hg
        omega)⟩
theorem GrB.heap {k : Nat} {cs : Array Value} {T : TypeId} {fr : Nat × Nat} (h : GrB B w w') (hk : w.heap[k]? = some (.cells cs T fr)) (hT : T ≠ 5) : w'.heap[k]? = some (.cells cs T fr) :=
  (h.block k (lt_of_block hk) (.inr (fun cs' fr' h' => by rw [hk] at h'; cases h'; exact absurd rfl hT))).trans hk
theorem GrB.small {k : Nat} {c : Value} {fr : Nat × Nat} (h : GrB B w w') (hk : w.heap[k]? = some (.cells #[c] 5 fr)) : w'.heap[k]? = some (.cells #[c] 5 fr) :=
  (h.block k (lt_of_block hk) (.inr (fun cs' fr' h' => by rw [hk] at h'; cases h'; simp))).trans hk
theorem GrB.chg {w0 : World} (h : GrB w0.heap.size w w') (hc : Chg [] w0 w) : Chg [] w0 w' :=
  ⟨h.os.trans hc.os, h.tape.trans hc.tape, h.output.trans hc.output, Nat.le_trans hc.size h.size, fun k hk _ => (h.block k (Nat.lt_of_lt_of_le hk hc.size) (.inl hk)).trans (hc.block k hk (by simp))⟩
end

def fS (l : Bs) (S : ByteArray) (k : Nat) : Bs := if k = 0 then l else l ++ [byteI (S.size : Int)] ++ S.data.toList
set_option maxHeartbeats 4000000 in
theorem field_any (w : World) (B g : Nat) (v : Value) (l : Bs) (S : ByteArray) (T : TypeId) (fr : Nat × Nat) (hT : T ≠ 5) (hg : w.heap[g]? = some (.cells #[.string S] T fr)) (hS : S.size ≤ 255) (ho : OwY w B v l) (hl : l.length ≤ 1000000) (hl2 : 2 ≤ l.length) (hB : B ≤ w.heap.size) :
    Calls Tryz.prog 33 #[v, .slice (some ⟨g, 0, none⟩) 1 1] w fun e w' => ∃ u, e = .returned u ∧ OwY w' B u (l ++ [byteI (S.size : Int)] ++ S.data.toList) ∧ GrB B w w' := by
  have HO := hid ho
  have HG := hid hg
  have e1 : [Value.int .u8 (S.size : Int)] = [byteI (S.size : Int)].map eb := by
    rw [List.map_cons, List.map_nil, eb_byteI, Int.emod_eq_of_lt (a := (S.size : Int)) (by omega) (by omega)]
  have HE := hid e1
  clear ho hg e1
  go_enter Tryz.func33, Tryz.ntmps33
  go_wp2_with (fail)
  go_loopw [0, 6, 9] (fun s0 _ s9 wr => ∃ k : Nat, k ≤ 1 ∧ s9 = .int .i64 k ∧ OwY wr B s0 (fS l S k) ∧ GrB B w wr) (fun _ _ i _ => 1 - (intOf i).toNat)
  case atStart => exact ⟨0, by omega, rfl, HO.out, GrB.refl _ _⟩
  case round =>
    obtain ⟨k, hk, rfl, hO, hc⟩ := hrel
    by_cases hlt : k < 1
    · obtain rfl : k = 0 := by omega
      have hO : OwY wr B u0 l := hO
      have hgc : wr.cell? ⟨g, 0, none⟩ = some (.string S) := by rw [cell_of_row _ _ _ _ _ _ (hc.heap HG.out hT)]; rfl
      have HO1 := hid hO
      have HC := hid hc
      clear hO hc
      have hBw : B ≤ wr.heap.size := Nat.le_trans hB HC.out.size
      go_wp2_with (first
        | (at_builtin; refine apS rfl _ _ rfl B S ho1 rfl rfl (by simp; omega) hBw1 ?_; rintro v2 w2 ho2 hc2)
        | (at_builtin; refine apB rfl _ _ rfl B 1 [_] [byteI (S.size : Int)] HE.out rfl HO1.out rfl _ rfl rfl (by omega) hBw ?_; rintro v1 w1 ho1 hc1; have hBw1 : B ≤ w1.heap.size := Nat.le_trans hBw hc1.size))
      have HC2 := (HC.out.trans (GrB.of_own HO1.out hl2 hc1)).trans (GrB.of_own ho1 (by simp; omega) hc2)
      have HO2 := hid ho2
      clear ho1 ho2 hc1 hc2
      go_roundw
      case rel => exact ⟨1, by omega, rfl, HO2.out, HC2⟩
      case measure => simp [intOf]
    · obtain rfl : k = 1 := by omega
      go_wp2_with (fail)
      go_ret
      exact ⟨_, rfl, hO, hc⟩

end Go.Proofs.YtldkmclfhjcicaaGreatDoor

namespace Go.Proofs.YtldkmclfhjcicaaGreatDoor
open Go.RowKit
set_option linter.unusedVariables false
set_option linter.unusedSimpArgs false

theorem four_at {w : World} {g : Nat} {a b c d : Value} {t : TypeId} {fr : Nat × Nat} (h : w.heap[g]? = some (.cells #[a, b, c, d] t fr)) : w.cell? ⟨g, 0, none⟩ = some a ∧ w.cell? ⟨g, 1, none⟩ = some b ∧ w.cell? ⟨g, 2, none⟩ = some c ∧ w.cell? ⟨g, 3, none⟩ = some d := by
  rw [cell_of_row w g 0 _ t fr h, cell_of_row w g 1 _ t fr h, cell_of_row w g 2 _ t fr h, cell_of_row w g 3 _ t fr h]; exact ⟨rfl, rfl, rfl, rfl⟩
end Go.Proofs.YtldkmclfhjcicaaGreatDoor
