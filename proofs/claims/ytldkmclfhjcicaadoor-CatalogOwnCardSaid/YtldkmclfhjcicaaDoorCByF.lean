import Derived.Lib.AppendStr
import Derived.WalkSpells
import Derived.Outline
import Derived.Test.YtldkmclfhjcicaaDoorProg
import Derived.Test.YtldkmclfhjcicaaDoorFr
import Derived.Test.YtldkmclfhjcicaaDoorCatP
import Derived.Test.YtldkmclfhjcicaaDoorCMem
import Derived.Test.YtldkmclfhjcicaaDoorCMv

namespace Go.Proofs.YtldkmclfhjcicaaDoor
open Go.RowKit
set_option linter.unusedVariables false
set_option linter.unusedSimpArgs false

/-- bytes of the call's own -/
def OwY (w : World) (B : Nat) (v : Value) (l : Bs) : Prop := w.ownsRow B 5 1 v l.length (l.map eb)
section
variable {w w' : World} {B : Nat} {v : Value} {l : Bs}
theorem OwY.nil (w : World) (B : Nat) : OwY w B (.slice none 0 0) [] := World.ownsRow_nil _ _ _ _
theorem OwY.keep (h : OwY w B v l) {L : List Nat} (hc : Chg L w w') (hn : ∀ j ∈ own v, j ∉ L) : OwY w' B v l := ownK_keep h hc hn
theorem OwY.keep1 (h : OwY w B v l) (hc : Chg [] w w') : OwY w' B v l := ownK_keep1 h hc
theorem OwY.base {B' : Nat} (h : OwY w B v l) (hB : B' ≤ B) : OwY w B' v l := ownK_base h hB
theorem OwY.ge (h : OwY w B v l) : ∀ j ∈ own v, B ≤ j := ownK_ge h
theorem OwY.lt (h : OwY w B v l) : ∀ j ∈ own v, j < w.heap.size := ownK_lt h
theorem OwY.chg {w0 : World} (hc : Chg [] w0 w) (h : OwY w B v l) (hB : w0.heap.size ≤ B) (hc' : Chg (own v) w w') : Chg [] w0 w' := chg_ownK hc h hB hc'
theorem OwY.reads (h : OwY w B v l) : Reads w v l := Reads.of_own h
theorem OwY.shape (h : OwY w B v l) : ∃ a cap, v = .slice a l.length cap := (RdK.of_own h).shape
theorem OwY.ne (h : OwY w B v l) {b : Nat} {cs : Array Value} {T : TypeId} {fr : Nat × Nat} (hb : w.heap[b]? = some (.cells cs T fr)) (hT : T ≠ 5) : b ∉ own v := by
  intro hj
  rcases h.2 with ⟨rfl, _⟩ | ⟨g, cap, cur, rfl, _, hg, _⟩
  · simp [own, Value.ownBlock] at hj
  · simp [own, Value.ownBlock] at hj
    subst hj
    rw [hb] at hg
    cases hg
    exact hT rfl
end
theorem eb_one (l : Bs) : ∀ u ∈ l.map eb, u.oneCell' = true := by intro u hu; obtain ⟨x, _, rfl⟩ := List.mem_map.1 hu; rfl
theorem info_byte : (Tryd.prog.info? 5).map (fun i => (i.zero, i.size, i.bytes)) = some (some (.int .u8 0), 1, 1) := by kernel_rfl
theorem byteI_val (n : Int) : ((byteI n).toNat : Int) = n % 256 := by
  unfold byteI
  rw [UInt8.toNat_ofNat']
  omega
theorem eb_byteI (n : Int) : eb (byteI n) = .int .u8 (n % 256) := by unfold eb; rw [byteI_val]

/-- append of bytes just built -/
theorem apB {ops : Array Oper} {rest : List Oper} {o : Oper} {a : Act} {Q : Exit → Act → World → Prop} {wr : World} (hgd : o.guard = none) (s x : Operand)
    (ho : o.op = .call { callee := .builtin .append, args := #[s, x], argTypes := #[22, 22] }) (B m : Nat) (news : List Value) (bs : Bs) (hnb : news = bs.map eb) (hm : bs.length = m)
    {v : Value} {l : Bs} (hown : OwY wr B v l) (hs : a.eval s = v) (g0 : Nat) (hg0 : g0 = wr.heap.size) (hx : a.eval x = .slice (some ⟨g0, 0, none⟩) m m)
    (hn : l.length + m ≤ 1000000000) (hB : B ≤ wr.heap.size)
    (h : ∀ v' w', OwY w' B v' (l ++ bs) → Chg (own v) wr w' → wpList Tryd.prog ops Q rest (a.put o.dst v') w') : wpList Tryd.prog ops Q (o :: rest) a (wr.alloc (.cells news.toArray 5)) := by
  subst hnb hm
  refine appendNK hgd s x 22 ho B 5 1 1 (by decide) _ Tryd.underlying22 info_byte rfl (by decide) bs.length (bs.map eb) (by simp) g0 hg0 hown hs hx (eb_one bs) hn hB ?_
  intro v' w' ho' hc'
  refine h v' w' ?_ hc'
  unfold OwY
  rw [List.length_append, List.map_append]; exact ho'
/-- append of a string -/
theorem apS {ops : Array Oper} {rest : List Oper} {o : Oper} {a : Act} {Q : Exit → Act → World → Prop} {wr : World} (hgd : o.guard = none) (s x : Operand)
    (ho : o.op = .call { callee := .builtin .append, args := #[s, x], argTypes := #[22, 9] }) (B : Nat) (S : ByteArray)
    {v : Value} {l : Bs} (hown : OwY wr B v l) (hs : a.eval s = v) (hx : a.eval x = .string S)
    (hn : l.length + S.size ≤ 1000000000) (hB : B ≤ wr.heap.size)
    (h : ∀ v' w', OwY w' B v' (l ++ S.data.toList) → Chg (own v) wr w' → wpList Tryd.prog ops Q rest (a.put o.dst v') w') : wpList Tryd.prog ops Q (o :: rest) a wr := by
  obtain ⟨i, h1, h2, h3, h4⟩ := info_parts info_byte
  refine Lib.wpList_append_own_string _ hgd s x 22 9 ho B 5 i Tryd.underlying22 Tryd.underlying9 h1 h2 h3 h4 v l.length (l.map eb) hs hown S hx (by unfold maxLen; omega) (by omega) hB ?_
  intro v' w' ho' hg _
  refine h v' w' ?_ ⟨hg.os, hg.tape, hg.output, hg.size, fun k hk hkn => hg.block k hk (fun e => hkn (by simp [own, ← e]))⟩
  unfold OwY
  rw [List.length_append, List.map_append, bs_len]; exact ho'
/-- append of bytes that are read -/
theorem apR {ops : Array Oper} {rest : List Oper} {o : Oper} {a : Act} {Q : Exit → Act → World → Prop} {wr : World} (hgd : o.guard = none) (s x : Operand)
    (ho : o.op = .call { callee := .builtin .append, args := #[s, x], argTypes := #[22, 22] }) (B : Nat) {ad : Option Addr} {m cap : Nat} (bs : Bs) (hm : bs.length = m) (hy : RdK wr 1 (.slice ad m cap) m (bs.map eb))
    {v : Value} {l : Bs} (hown : OwY wr B v l) (hs : a.eval s = v) (hx : a.eval x = .slice ad m cap)
    (hn : l.length + m ≤ 1000000000) (hB : B ≤ wr.heap.size)
    (h : ∀ v' w', OwY w' B v' (l ++ bs) → Chg (own v) wr w' → wpList Tryd.prog ops Q rest (a.put o.dst v') w') : wpList Tryd.prog ops Q (o :: rest) a wr := by
  subst hm
  refine appendRK hgd s x 22 ho B 5 1 1 (by decide) _ Tryd.underlying22 info_byte rfl (by decide) hy (eb_one bs) hown hs hx hn hB ?_
  intro v' w' ho' hc'
  refine h v' w' ?_ hc'
  unfold OwY
  rw [List.length_append, List.map_append]; exact ho'

set_option maxHeartbeats 1000000 in
theorem half_any (w : World) (B : Nat) (v : Value) (l : Bs) (n : Int) (h0 : 0 ≤ n) (h1 : n < 65536) (ho : OwY w B v l) (hl : l.length ≤ 1000000) (hB : B ≤ w.heap.size) :
    Calls Tryd.prog 67 #[v, .int .i64 n] w fun e w' => ∃ u, e = .returned u ∧ OwY w' B u (l ++ twoB n) ∧ Chg (own v) w w' := by
  have HO := hid ho
  have e1 : [Value.int .u8 (n / 256), Value.int .u8 (n % 256)] = (twoB n).map eb := by
    unfold twoB; rw [List.map_cons, List.map_cons, List.map_nil, eb_byteI, eb_byteI, Int.emod_eq_of_lt (a := n / 256) (by omega) (by omega)]
  have HE := hid e1
  clear ho e1
  have hs : IntKind.i64.wrap (n / 256) = n / 256 := by rw [IntKind.wrap_i64]; omega
  have hd : 0 ≤ n / 256 ∧ n / 256 < 256 := by omega
  obtain ⟨hd1, hd2⟩ := hd
  go_enter Tryd.func67, Tryd.ntmps67
  go_wp2_with (at_builtin; refine apB rfl _ _ rfl B 2 [_, _] (twoB n) HE.out rfl HO.out rfl _ rfl rfl (by omega) hB ?_; rintro v' w' ho' hc')
  go_ret
  exact ⟨_, rfl, ho', hc'⟩

/-- Nothing that lies below B, and no block that is no row of two bytes or more, has turned. -/
structure GrB (B : Nat) (w w' : World) : Prop where
  os : w'.os = w.os
  tape : w'.tape = w.tape
  output : w'.output = w.output
  size : w.heap.size ≤ w'.heap.size
  block : ∀ k, k < w.heap.size → (k < B ∨ ∀ cs fr, w.heap[k]? = some (.cells cs 5 fr) → cs.size < 2) → w'.heap[k]? = w.heap[k]?
section
variable {w w' w'' : World} {B : Nat}
theorem GrB.refl (B : Nat) (w : World) : GrB B w w := ⟨rfl, rfl, rfl, Nat.le_refl _, fun _ _ _ => rfl⟩
theorem GrB.trans (h : GrB B w w') (k : GrB B w' w'') : GrB B w w'' :=
  ⟨k.os.trans h.os, k.tape.trans h.tape, k.output.trans h.output, Nat.le_trans h.size k.size, fun i hi hn => by
    have h1 := h.block i hi hn
    refine (k.block i (Nat.lt_of_lt_of_le hi h.size) ?_).trans h1
    rcases hn with hn | hn
    · exact .inl hn
    · exact .inr (by rw [h1]; exact hn)⟩
theorem GrB.of_chg (h : Chg [] w w') : GrB B w w' := ⟨h.os, h.tape, h.output, h.size, fun k hk _ => h.block k hk (by simp)⟩
theorem GrB.of_own {v : Value} {l : Bs} (ho : OwY w B v l) (hl : 2 ≤ l.length) (h : Chg (own v) w w') : GrB B w w' :=
  ⟨h.os, h.tape, h.output, h.size, fun k hk hn => h.block k hk (fun hj => by
    rcases hn with hn | hn
    · have := ho.ge k hj; omega
    · rcases ho.2 with ⟨rfl, _⟩ | ⟨g, cap, cur, rfl, _, hg, hnc, _, hsz, _⟩
      · simp [own, Value.ownBlock] at hj
      · simp [own, Value.ownBlock] at hj
        subst hj
        have := hn _ _ hg
        omega)⟩
theorem GrB.heap {k : Nat} {cs : Array Value} {T : TypeId} {fr : Nat × Nat} (h : GrB B w w') (hk : w.heap[k]? = some (.cells cs T fr)) (hT : T ≠ 5) : w'.heap[k]? = some (.cells cs T fr) :=
  (h.block k (lt_of_block hk) (.inr (fun cs' fr' h' => by rw [hk] at h'; cases h'; exact absurd rfl hT))).trans hk
theorem GrB.small {k : Nat} {c : Value} {fr : Nat × Nat} (h : GrB B w w') (hk : w.heap[k]? = some (.cells #[c] 5 fr)) : w'.heap[k]? = some (.cells #[c] 5 fr) :=
  (h.block k (lt_of_block hk) (.inr (fun cs' fr' h' => by rw [hk] at h'; cases h'; simp))).trans hk
theorem GrB.chg {w0 : World} (h : GrB w0.heap.size w w') (hc : Chg [] w0 w) : Chg [] w0 w' :=
  ⟨h.os.trans hc.os, h.tape.trans hc.tape, h.output.trans hc.output, Nat.le_trans hc.size h.size, fun k hk _ => (h.block k (Nat.lt_of_lt_of_le hk hc.size) (.inl hk)).trans (hc.block k hk (by simp))⟩
end

def fS (l : Bs) (S : ByteArray) (k : Nat) : Bs := if k = 0 then l else l ++ [byteI (S.size : Int)] ++ S.data.toList
set_option maxHeartbeats 4000000 in
theorem field_any (w : World) (B g : Nat) (v : Value) (l : Bs) (S : ByteArray) (T : TypeId) (fr : Nat × Nat) (hT : T ≠ 5) (hg : w.heap[g]? = some (.cells #[.string S] T fr)) (hS : S.size ≤ 255) (ho : OwY w B v l) (hl : l.length ≤ 1000000) (hl2 : 2 ≤ l.length) (hB : B ≤ w.heap.size) :
    Calls Tryd.prog 68 #[v, .slice (some ⟨g, 0, none⟩) 1 1] w fun e w' => ∃ u, e = .returned u ∧ OwY w' B u (l ++ [byteI (S.size : Int)] ++ S.data.toList) ∧ GrB B w w' := by
  have HO := hid ho
  have HG := hid hg
  have e1 : [Value.int .u8 (S.size : Int)] = [byteI (S.size : Int)].map eb := by
    rw [List.map_cons, List.map_nil, eb_byteI, Int.emod_eq_of_lt (a := (S.size : Int)) (by omega) (by omega)]
  have HE := hid e1
  clear ho hg e1
  go_enter Tryd.func68, Tryd.ntmps68
  go_wp2_with (fail)
  go_loopw [0, 6, 9] (fun s0 _ s9 wr => ∃ k : Nat, k ≤ 1 ∧ s9 = .int .i64 k ∧ OwY wr B s0 (fS l S k) ∧ GrB B w wr) (fun _ _ i _ => 1 - (intOf i).toNat)
  case atStart => exact ⟨0, by omega, rfl, HO.out, GrB.refl _ _⟩
  case round =>
    obtain ⟨k, hk, rfl, hO, hc⟩ := hrel
    by_cases hlt : k < 1
    · obtain rfl : k = 0 := by omega
      have hO : OwY wr B u0 l := hO
      have hgc : wr.cell? ⟨g, 0, none⟩ = some (.string S) := by rw [cell_of_row _ _ _ _ _ _ (hc.heap HG.out hT)]; rfl
      have HO1 := hid hO
      have HC := hid hc
      clear hO hc
      have hBw : B ≤ wr.heap.size := Nat.le_trans hB HC.out.size
      go_wp2_with (first
        | (at_builtin; refine apS rfl _ _ rfl B S ho1 rfl rfl (by simp; omega) hBw1 ?_; rintro v2 w2 ho2 hc2)
        | (at_builtin; refine apB rfl _ _ rfl B 1 [_] [byteI (S.size : Int)] HE.out rfl HO1.out rfl _ rfl rfl (by omega) hBw ?_; rintro v1 w1 ho1 hc1; have hBw1 : B ≤ w1.heap.size := Nat.le_trans hBw hc1.size))
      have HC2 := (HC.out.trans (GrB.of_own HO1.out hl2 hc1)).trans (GrB.of_own ho1 (by simp; omega) hc2)
      have HO2 := hid ho2
      clear ho1 ho2 hc1 hc2
      go_roundw
      case rel => exact ⟨1, by omega, rfl, HO2.out, HC2⟩
      case measure => simp [intOf]
    · obtain rfl : k = 1 := by omega
      go_wp2_with (fail)
      go_ret
      exact ⟨_, rfl, hO, hc⟩

end Go.Proofs.YtldkmclfhjcicaaDoor

namespace Go.Proofs.YtldkmclfhjcicaaDoor
open Go.RowKit
set_option linter.unusedVariables false
set_option linter.unusedSimpArgs false

/-- what Find hands back: the first entry of the name -/
def fndS (c : Cat) (n : Bs) : Ent × Bool := if n ∈ namesS c.es then (c.es.getD ((namesS c.es).idxOf n) default, true) else (default, false)

theorem four_at {w : World} {g : Nat} {a b c d : Value} {t : TypeId} {fr : Nat × Nat} (h : w.heap[g]? = some (.cells #[a, b, c, d] t fr)) : w.cell? ⟨g, 0, none⟩ = some a ∧ w.cell? ⟨g, 1, none⟩ = some b ∧ w.cell? ⟨g, 2, none⟩ = some c ∧ w.cell? ⟨g, 3, none⟩ = some d := by
  rw [cell_of_row w g 0 _ t fr h, cell_of_row w g 1 _ t fr h, cell_of_row w g 2 _ t fr h, cell_of_row w g 3 _ t fr h]; exact ⟨rfl, rfl, rfl, rfl⟩
theorem store4 {W : World} {g : Nat} {a b c d : Value} {T : TypeId} (x y z u : Value) (h : W.heap[g]? = some (.cells #[a, b, c, d] T (0, 0))) :
    W.frozen? ⟨g, 0, none⟩ = false ∧ W.frozen? ⟨g, 1, none⟩ = false ∧ W.frozen? ⟨g, 2, none⟩ = false ∧ W.frozen? ⟨g, 3, none⟩ = false ∧
    Hid (((((W.setCell ⟨g, 0, none⟩ x).setCell ⟨g, 1, none⟩ y).setCell ⟨g, 2, none⟩ z).setCell ⟨g, 3, none⟩ u).heap[g]? = some (.cells #[x, y, z, u] T (0, 0))) ∧ Hid (Chg [g] W ((((W.setCell ⟨g, 0, none⟩ x).setCell ⟨g, 1, none⟩ y).setCell ⟨g, 2, none⟩ z).setCell ⟨g, 3, none⟩ u)) := by
  have x0 : (W.setCell ⟨g, 0, none⟩ x).heap[g]? = some (.cells #[x, b, c, d] T (0, 0)) := heap_setCell_same _ g 0 _ _ _ h
  have x1 : ((W.setCell ⟨g, 0, none⟩ x).setCell ⟨g, 1, none⟩ y).heap[g]? = some (.cells #[x, y, c, d] T (0, 0)) := heap_setCell_same _ g 1 _ _ _ x0
  have x2 : (((W.setCell ⟨g, 0, none⟩ x).setCell ⟨g, 1, none⟩ y).setCell ⟨g, 2, none⟩ z).heap[g]? = some (.cells #[x, y, z, d] T (0, 0)) := heap_setCell_same _ g 2 _ _ _ x1
  have x3 : ((((W.setCell ⟨g, 0, none⟩ x).setCell ⟨g, 1, none⟩ y).setCell ⟨g, 2, none⟩ z).setCell ⟨g, 3, none⟩ u).heap[g]? = some (.cells #[x, y, z, u] T (0, 0)) := heap_setCell_same _ g 3 _ _ _ x2
  have k : ∀ (W : World) (i : Nat) (v : Value), Chg [g] W (W.setCell ⟨g, i, none⟩ v) := fun W i v => Chg.setCell _ (.inl (by simp)) _
  exact ⟨frozen_of_row _ _ _ _ _ h, frozen_of_row _ _ _ _ _ h, frozen_of_row _ _ _ _ _ h, frozen_of_row _ _ _ _ _ h, x3, (((k _ _ _).trans (k _ _ _)).trans (k _ _ _)).trans (k _ _ _)⟩

theorem find1_any (S T Q : ByteArray) (u f : Int) (B : Nat) (W : World) (hB : W.cell? ⟨B, 0, none⟩ = some (.string Q)) :
    Calls Tryd.prog 66 #[.agg #[.string S, .int .i64 u, .string T, .int .i64 f], .pointer (some ⟨B, 0, none⟩)] W fun e w' => e = .returned (.bool (decide (S.data.toList = Q.data.toList))) ∧ Chg [] W w' := by
  have hlt := World.block_lt_of_cell? W _ hB
  simp only at hlt
  have hne : ¬ B = W.heap.size := by omega
  have hne' : ¬ W.heap.size = B := by omega
  go_enter Tryd.func66, Tryd.ntmps66
  go_wp2_with (fail)
  go_ret
  exact ⟨ret_bool (by rw [str_eq]), Chg.alloc _ _ _⟩

set_option maxHeartbeats 4000000 in
theorem IndexFunc_any (w : World) (v : Value) (es : List Ent) (Q : ByteArray) (B : Nat) (hv : RdE w v es) (hM : es.length ≤ 1000000) (hB : w.cell? ⟨B, 0, none⟩ = some (.string Q)) :
    Calls Tryd.prog 65 #[v, .func (.func 66) #[] #[.pointer (some ⟨B, 0, none⟩)]] w fun e w' =>
      e = .returned (.int .i64 (fIdx (namesS es) Q.data.toList)) ∧ Chg [] w w' := by
  obtain ⟨L, hL⟩ : ∃ L, es.length = L := ⟨_, rfl⟩
  obtain ⟨R, hR⟩ : ∃ R, fIdx (namesS es) Q.data.toList = R := ⟨_, rfl⟩
  rw [hR]
  have hln : (namesS es).length = L := by unfold namesS; rw [List.length_map]; exact hL
  have HHIT : Hid (∀ k, k < L → (∀ j < k, (es.getD j default).name ≠ Q.data.toList) → (es.getD k default).name = Q.data.toList → R = k) := fun k hk ha he => by
    rw [← hR]
    exact fIdx_hit (by rw [hln]; exact hk) (fun j hj => by rw [names_getD es j (by omega)]; exact ha j hj) (by rw [names_getD es k (by omega)]; exact he)
  have HMISS : Hid ((∀ j < L, (es.getD j default).name ≠ Q.data.toList) → R = -1) := fun ha => by
    rw [← hR]
    exact fIdx_miss (fun j hj => by rw [hln] at hj; rw [names_getD es j (by omega)]; exact ha j hj)
  rw [hL] at hM
  have hpart := hv.parts hL
  obtain ⟨ea, ec, rfl, HC⟩ : ∃ ea ec, v = .slice ea L ec ∧ Hid (∀ i, i < L → ∃ bb off, ea = some ⟨bb, off, none⟩ ∧ bb < w.heap.size ∧ w.cell? ⟨bb, off + i * 4, none⟩ = some (.string ⟨(es.getD i default).name.toArray⟩) ∧ w.cell? ⟨bb, off + i * 4 + 1, none⟩ = some (.int .i64 (es.getD i default).unit) ∧
        w.cell? ⟨bb, off + i * 4 + 2, none⟩ = some (.string ⟨(es.getD i default).serial.toArray⟩) ∧ w.cell? ⟨bb, off + i * 4 + 3, none⟩ = some (.int .i64 (es.getD i default).file)) := by
    rcases hpart with ⟨_, h0, a, cap, rfl⟩ | ⟨bb, off, cap, rfl, h1, h2, h3, hbb, hc⟩
    · exact ⟨a, cap, by rw [h0], fun i hi => by omega⟩
    · exact ⟨_, _, rfl, fun i hi => ⟨bb, off, rfl, hbb, hc.out i hi⟩⟩
  have HB := hid hB
  clear hpart hv hL hln hR hB
  go_enter Tryd.func65, Tryd.ntmps65
  go_wp2_with (fail)
  go_loopw [5, 8] (fun _ i wr => ∃ k : Nat, k ≤ L ∧ i = .int .i64 k ∧ Hid (∀ j < k, (es.getD j default).name ≠ Q.data.toList) ∧ Chg [] w wr) (fun _ i _ => L - (intOf i).toNat)
  case atStart => exact ⟨0, by omega, rfl, (fun j hj => absurd hj (Nat.not_lt_zero _)), Chg.refl _ _⟩
  case round =>
    obtain ⟨k, hk, rfl, hno, hc⟩ := hrel
    by_cases hlt : k < L
    · obtain ⟨bb, off, rfl, hbb, k0, k1, k2, k3⟩ := HC.out k hlt
      have hlti : (k : Int) < (L : Int) := by omega
      replace k0 := hc.cell k0 (by simp)
      replace k1 := hc.cell k1 (by simp)
      replace k2 := hc.cell k2 (by simp)
      replace k3 := hc.cell k3 (by simp)
      have hr := find1_any ⟨(es.getD k default).name.toArray⟩ ⟨(es.getD k default).serial.toArray⟩ Q (es.getD k default).unit (es.getD k default).file B wr (hc.cell HB.out (by simp))
      rw [bs_data] at hr
      have hhit := HHIT.out k hlt hno.out
      have HX : Hid (∀ x, es.getD k default = x → x.name ≠ Q.data.toList → ∀ j < k + 1, (es.getD j default).name ≠ Q.data.toList) := fun x hx hn j hj => by
        rcases Nat.lt_or_ge j k with h | h
        · exact hno.out j h
        · obtain rfl : j = k := by omega
          rw [hx]; exact hn
      obtain ⟨x, hx⟩ : ∃ x, es.getD k default = x := ⟨_, rfl⟩
      rw [hx] at k0 k1 k2 k3 hr hhit
      have HX' := hid (HX.out x hx)
      clear hx HX
      have HCH := hid hc
      have HHH := hid hhit
      by_cases hn : x.name = Q.data.toList
      · rw [decide_eq_true hn] at hr
        have HRR := hid hr
        clear hr hc hhit
        obtain rfl : R = (k : Nat) := HHH.out hn
        clear hn
        go_wp2_with (refine HRR.out.mono ?_; rintro e w2 ⟨rfl, hc2⟩)
        go_ret
        exact ⟨rfl, HCH.out.trans hc2⟩
      · rw [decide_eq_false hn] at hr
        have HRR := hid hr
        have HN := hid (HX'.out hn)
        clear hr hc hn hhit
        go_wp2_with (refine HRR.out.mono ?_; rintro e w2 ⟨rfl, hc2⟩)
        go_roundw
        case rel => exact ⟨k + 1, by omega, by go_num, HN.out, HCH.out.trans hc2⟩
        case measure => simp [intOf]; omega
    · obtain rfl : k = L := by omega
      obtain rfl : R = -1 := HMISS.out hno.out
      go_wp2_with (fail)
      go_ret
      exact ⟨rfl, hc⟩

set_option maxHeartbeats 4000000 in
theorem Find_any (w : World) (ve vg : Value) (c : Cat) (hv : RdC w ve vg c) (S : ByteArray) (hM : c.es.length ≤ 1000000) : Calls Tryd.prog 34 #[.agg #[ve, vg], .string S] w fun e w' =>
    e = .returned (.tuple #[entA (fndS c S.data.toList).1, .bool (fndS c S.data.toList).2]) ∧ Chg [] w w' := by
  have hve := hv.1
  obtain ⟨W0, hW0⟩ : ∃ W0, ((w.alloc (.cells #[ve, vg] 36)).alloc (.cells #[.string S] 9)).alloc (.cells #[.string ⟨#[]⟩, .int .i64 0, .string ⟨#[]⟩, .int .i64 0] 50) = W0 := ⟨_, rfl⟩
  have hbx : W0.heap[w.heap.size]? = some (.cells #[ve, vg] 36 (0, 0)) := by rw [← hW0]; exact al_old (al_old (al_new rfl))
  have hsb : W0.heap[w.heap.size + 1]? = some (.cells #[.string S] 9 (0, 0)) := by rw [← hW0]; exact al_old (al_new (by simp))
  have hres : W0.heap[w.heap.size + 2]? = some (.cells #[.string ⟨#[]⟩, .int .i64 0, .string ⟨#[]⟩, .int .i64 0] 50 (0, 0)) := by rw [← hW0]; exact al_new (by simp)
  have hw0 : Chg [] w W0 := by rw [← hW0]; exact ((Chg.alloc _ _ _).trans (Chg.alloc _ _ _)).trans (Chg.alloc _ _ _)
  have hsc : W0.cell? ⟨w.heap.size + 1, 0, none⟩ = some (.string S) := by rw [cell_of_row _ _ _ _ _ _ hsb]; rfl
  have hix := IndexFunc_any W0 ve c.es S (w.heap.size + 1) (hve.keep1 hw0) hM hsc
  obtain ⟨R, hR⟩ : ∃ R, fndS c S.data.toList = R := ⟨_, rfl⟩
  rw [hR]
  by_cases hm : S.data.toList ∈ namesS c.es
  · obtain ⟨i, hi⟩ : ∃ i, (namesS c.es).idxOf S.data.toList = i := ⟨_, rfl⟩
    have hil : i < c.es.length := by rw [← hi]; have := List.idxOf_lt_length_of_mem hm; unfold namesS at this ⊢; rwa [List.length_map] at this
    unfold fIdx at hix
    rw [if_pos hm, hi] at hix
    obtain rfl : (c.es.getD i default, true) = R := by rw [← hR]; unfold fndS; rw [if_pos hm, hi]
    obtain ⟨L, hL⟩ : ∃ L, c.es.length = L := ⟨_, rfl⟩
    rcases hve.parts hL with ⟨_, h, _⟩ | ⟨xb, xo, xd, rfl, x1, x2, x3, xlt, XC⟩
    · omega
    obtain ⟨y0, y1, y2, y3⟩ := XC.out i (by omega)
    obtain ⟨x, hx⟩ : ∃ x, c.es.getD i default = x := ⟨_, rfl⟩
    rw [hx] at y0 y1 y2 y3 ⊢
    have hii : (i : Int) < (L : Int) := by omega
    have hi0 : ¬ ((i : Int) < 0) := by omega
    have HIX := hid hix
    have HW0 := hid hW0
    have HB := hid hbx
    have HS := hid hres
    have HSC := hid hsc
    have HY0 := hid y0
    have HY1 := hid y1
    have HY2 := hid y2
    have HY3 := hid y3
    clear hv hve hix hW0 hbx hsb hres hsc hR hi hx y0 y1 y2 y3 XC hm
    have hne : ¬ (w.heap.size + 2 = xb) := by omega
    have hne' : ¬ (xb = w.heap.size + 2) := by omega
    go_enter Tryd.func34, Tryd.ntmps34
    go_wp2_with (first
      | (go_at_call 65; rw [HW0.out]; refine HIX.out.mono ?_; rintro e W1 ⟨rfl, hc1⟩; have y0 := (hw0.trans hc1).cell HY0.out (by simp); have y1 := (hw0.trans hc1).cell HY1.out (by simp); have y2 := (hw0.trans hc1).cell HY2.out (by simp); have y3 := (hw0.trans hc1).cell HY3.out (by simp); obtain ⟨b0, b1⟩ := two_cells (hc1.heap HB.out (by simp)); obtain ⟨r0, r1, r2, r3⟩ := four_at (hc1.heap HS.out (by simp)); obtain ⟨f0, f1, f2, f3, -, -⟩ := store4 (.string ⟨x.name.toArray⟩) (.int .i64 x.unit) (.string ⟨x.serial.toArray⟩) (.int .i64 x.file) (hc1.heap HS.out (by simp)))
      | ((with_reducible refine bodyPost_ret (v := .tuple #[entA x, .bool true]) ?_ ?_ ?_); all_goals (obtain ⟨-, -, -, -, HR2, HC2⟩ := store4 (.string ⟨x.name.toArray⟩) (.int .i64 x.unit) (.string ⟨x.serial.toArray⟩) (.int .i64 x.file) (hc1.heap HS.out (by simp)); obtain ⟨q0, q1, q2, q3⟩ := four_at HR2.out; first | exact ⟨rfl, (hw0.trans hc1).then HC2.out (by simp)⟩ | (simp [results, Tryd.f34, go_sem, q0, q1, q2, q3, entA]; done))))
  · unfold fIdx at hix
    rw [if_neg hm] at hix
    obtain rfl : (default, false) = R := by rw [← hR]; unfold fndS; rw [if_neg hm]
    have HIX := hid hix
    have HW0 := hid hW0
    have HB := hid hbx
    have HS := hid hres
    clear hv hve hix hW0 hbx hsb hres hsc hR hm
    go_enter Tryd.func34, Tryd.ntmps34
    go_wp2_with (first
      | (go_at_call 65; rw [HW0.out]; refine HIX.out.mono ?_; rintro e W1 ⟨rfl, hc1⟩; obtain ⟨b0, b1⟩ := two_cells (hc1.heap HB.out (by simp)); obtain ⟨r0, r1, r2, r3⟩ := four_at (hc1.heap HS.out (by simp)); obtain ⟨f0, f1, f2, f3, -, -⟩ := store4 (.string ⟨#[]⟩) (.int .i64 0) (.string ⟨#[]⟩) (.int .i64 0) (hc1.heap HS.out (by simp)))
      | ((with_reducible refine bodyPost_ret (v := .tuple #[.agg #[.string ⟨#[]⟩, .int .i64 0, .string ⟨#[]⟩, .int .i64 0], .bool false]) ?_ ?_ ?_); all_goals (obtain ⟨-, -, -, -, HR2, HC2⟩ := store4 (.string ⟨#[]⟩) (.int .i64 0) (.string ⟨#[]⟩) (.int .i64 0) (hc1.heap HS.out (by simp)); obtain ⟨q0, q1, q2, q3⟩ := four_at HR2.out; first | exact ⟨rfl, (hw0.trans hc1).then HC2.out (by simp)⟩ | (simp [results, Tryd.f34, go_sem, q0, q1, q2, q3]; done))))

end Go.Proofs.YtldkmclfhjcicaaDoor
