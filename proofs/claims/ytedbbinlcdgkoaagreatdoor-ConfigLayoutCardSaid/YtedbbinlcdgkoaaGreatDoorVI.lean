import Derived.MapKept
import Derived.Test.YtedbbinlcdgkoaaGreatDoorVH
/- The value machine: make, bytes and strings, and all operations but calls. No program in sight. -/
namespace Go.Proofs.YtedbbinlcdgkoaaGreatDoor
open Go.RowKit
set_option linter.unusedVariables false
set_option linter.unusedSimpArgs false

section
variable {P : Program} {F : Env} {β : Bet} {s : St} {a : Act} {W : World} {d : Option Nat}

def toBytes? : List (List V) → Option (List UInt8)
  | [] => some []
  | [.int .u8 n] :: rs => match toBytes? rs with
    | some l => some (UInt8.ofNat n.toNat :: l)
    | none => none
  | _ => none
theorem toBytes_bytesR : ∀ l : List UInt8, toBytes? (bytesR l) = some l
  | [] => rfl
  | c :: l => by
    show (match toBytes? (bytesR l) with | some m => some (UInt8.ofNat (c.toNat : Int).toNat :: m) | none => none) = _
    rw [toBytes_bytesR l]; simp
theorem toBytes_cells {S : Sit} : ∀ {rows : List (List V)} {l : List UInt8} {cs : List Value}, toBytes? rows = some l → RepL S rows.flatten cs →
    ∃ ns : List Int, cs = ns.map (Value.int .u8) ∧ ns.map (fun n => UInt8.ofNat n.toNat) = l ∧ ns.length = rows.length
  | [], l, cs, h, hc => by simp only [toBytes?, Option.some.injEq] at h; subst h; cases hc; exact ⟨[], rfl, rfl, rfl⟩
  | [] :: rs, l, cs, h, hc => by simp [toBytes?] at h
  | [x] :: rs, l, cs, h, hc => by
    cases x with
    | int k n =>
      cases k <;> try (simp [toBytes?] at h; done)
      simp only [toBytes?] at h
      split at h
      · rename_i m hm
        injection h with h; subst h
        obtain ⟨u, us, rfl, h1, h2⟩ := hc
        obtain ⟨ns, rfl, h4, h5⟩ := toBytes_cells hm h2
        cases h1
        exact ⟨n :: ns, rfl, by simp [h4], by simp [h5]⟩
      · cases h
    | _ => simp [toBytes?] at h
  | (x :: y :: r) :: rs, l, cs, h, hc => by cases x <;> simp [toBytes?] at h

theorem foldl_push (l : List UInt8) : ∀ (acc : ByteArray), (l.foldl (fun r n => r.push n) acc) = ⟨(acc.data.toList ++ l).toArray⟩ := by
  induction l with
  | nil => intro acc; cases acc; simp
  | cons c l ih => intro acc; rw [List.foldl_cons, ih]; cases acc; simp [ByteArray.push]

def bytesStrV (τ : TT) (src dst : TypeId) (vx : Option V) : Option Res :=
  match τ src, τ dst, vx with
  | some ts, some td, some x => (match ts.k, td.k with
    | .slc e, .str => (match τ e with
      | some te => (match te.k, x with
        | .int .u8, .sl 1 rows => (match toBytes? rows with
          | some l => ok (.str l)
          | none => none)
        | .int .u8, .nil => ok (.str [])
        | _, _ => none)
      | none => none)
    | _, _ => none)
  | _, _, _ => none
theorem bytesStrV_ok {τ : TT} (hτ : TTOk P τ) (h : Sim F β s a W) (hd : ∀ i, d = some i → i < F.n) {src dst : TypeId} {x : V} {r : Res} (hr : bytesStrV τ src dst (view s.o x) = some r) {v : Value} (hx : Rep (sit F β s.o W) x v) :
    Does P F (convert src dst v) s a W d r := by
  unfold bytesStrV at hr
  split at hr <;> try (cases hr; done)
  rename_i ts td y hts htd hv
  have hy := (view_rep h.objs _ _ _ hv hx).1
  split at hr <;> try (cases hr; done)
  rename_i e hk1 hk2
  have h1 := (hτ src ts hts).k
  have h2 := (hτ dst td htd).k
  rw [hk1] at h1; rw [hk2] at h2
  split at hr <;> try (cases hr; done)
  rename_i te hte
  have h3 := (hτ e te hte).k
  split at hr <;> try (cases hr; done)
  · rename_i rows hk3
    rw [hk3] at h3
    split at hr <;> try (cases hr; done)
    rename_i l hl
    injection hr with hr; subst hr
    obtain ⟨ad, cap, rfl, g1, g2, g3, g4, g5, g6⟩ := hy
    have hconv := run_convert_bytes_string (P := P) W src dst e ad rows.length cap h1 h3 h2
    refine does_val h hd rfl (z := .string ⟨l.toArray⟩) ?_ rfl (by simp [V.refs])
    rw [hconv]
    cases ad with
    | none =>
      have := g3 rfl; subst this
      simp only [toBytes?, Option.some.injEq] at hl; subst hl
      rfl
    | some x0 =>
      obtain ⟨k1, k2⟩ := g6 x0 rfl
      obtain ⟨cs, c1, c2, c3⟩ : ∃ cs, RepL (sit F β s.o W) rows.flatten cs ∧ (∀ c ∈ cs, c.oneCell' = true) ∧ ∀ (j : Nat) (u : Value), cs[j]? = some u → W.cell? (x0.add j) = some u := by
        by_cases hr0 : rows = []
        · subst hr0; exact ⟨[], rfl, (fun c hc => by cases hc), fun j u hj => by simp at hj⟩
        · have k1 := k1 hr0
          obtain ⟨b, o, sp⟩ := x0
          simp only at k1 k2; subst k1
          obtain ⟨cs, c1, c2, c3⟩ := (AtR.flat.1 k2).cells
          exact ⟨cs, c1, c2, fun j u hj => by rw [add_at]; exact c3 j u hj⟩
      obtain ⟨ns, rfl, n1, n2⟩ := toBytes_cells hl c1
      have hl2 := run_loadCells_list (P := P) W x0 (ns.map (Value.int .u8)) c3
      rw [List.length_map, n2] at hl2
      have := run_bytesToString (P := P) W x0 rows.length cap ns hl2
      rw [this]
      congr 2
      have hf := foldl_push (ns.map fun n => UInt8.ofNat n.toNat) ByteArray.empty
      rw [List.foldl_map, n1] at hf
      rw [hf]
      simp
  · rename_i hk3
    rw [hk3] at h3
    injection hr with hr; subst hr
    have hy : v = .slice none 0 0 := hy
    subst hy
    have hconv := run_convert_bytes_string (P := P) W src dst e none 0 0 h1 h3 h2
    refine does_val h hd rfl (z := .string ⟨[].toArray⟩) ?_ rfl (by simp [V.refs])
    rw [hconv]; rfl

def strBytesV (τ : TT) (src dst : TypeId) (x : V) : Option Res :=
  match τ src, τ dst, x with
  | some ts, some td, .str l => (match ts.k, td.k with
    | .str, .slc e => (match τ e with
      | some te => (match te.k with
        | .int .u8 => okIf (l.length ≤ 1000000000) (.sl 1 (bytesR l))
        | _ => none)
      | none => none)
    | _, _ => none)
  | _, _, _ => none
theorem bytesR_flat : ∀ l : List UInt8, (bytesR l).flatten = l.map fun c => V.int .u8 (c.toNat : Int)
  | [] => rfl
  | c :: l => by show [V.int .u8 (c.toNat : Int)] ++ (bytesR l).flatten = _; rw [bytesR_flat l]; rfl
theorem bytesR_get (l : List UInt8) (i : Nat) (h : i < l.length) : ∃ h', (bytesR l).flatten[i]'h' = V.int .u8 (l[i].toNat : Int) :=
  ⟨by rw [bytesR_flat]; simpa using h, by simp only [bytesR_flat, List.getElem_map]⟩
theorem bytesR_clean (l : List UInt8) : cleanR (bytesR l) := fun r hr => by obtain ⟨c, _, rfl⟩ := List.mem_map.1 hr; rfl
theorem bytesR_row (l : List UInt8) : ∀ r ∈ bytesR l, r.length = 1 := fun r hr => by obtain ⟨c, _, rfl⟩ := List.mem_map.1 hr; rfl
theorem bytesR_len (l : List UInt8) : (bytesR l).length = l.length := by simp [bytesR]
theorem strBytesV_ok {τ : TT} (hτ : TTOk P τ) (h : Sim F β s a W) (hd : ∀ i, d = some i → i < F.n) {src dst : TypeId} {x : V} {r : Res} (hr : strBytesV τ src dst x = some r) (hp : r.pre) {v : Value} (hx : Rep (sit F β s.o W) x v) :
    Does P F (convert src dst v) s a W d r := by
  unfold strBytesV at hr
  split at hr <;> try (cases hr; done)
  rename_i ts td l hts htd
  split at hr <;> try (cases hr; done)
  rename_i e hk1 hk2
  have h1 := (hτ src ts hts).k
  have h2 := (hτ dst td htd).k
  rw [hk1] at h1; rw [hk2] at h2
  split at hr <;> try (cases hr; done)
  rename_i te hte
  have h3 := (hτ e te hte).k
  split at hr <;> try (cases hr; done)
  rename_i hk3
  rw [hk3] at h3
  injection hr with hr; subst hr
  have hp : l.length ≤ 1000000000 := hp
  have hx : v = .string ⟨l.toArray⟩ := hx
  subst hx
  have hrun := run_bytes_of_string (P := P) W src dst e ⟨l.toArray⟩ h1 h2 h3
  have c1 := grownCap_ge W l.length 0 e
  have c2 := grownCap_le_maxLen W l.length 0 e (by unfold maxLen; omega)
  rw [vb_size] at hrun
  generalize grownCap W l.length 0 e = cap at hrun c1 c2
  generalize hfr : ((bytesRow ⟨l.toArray⟩ cap).size, (bytesRow ⟨l.toArray⟩ cap).size + 1) = fr at hrun
  have hW : Chg [] W (W.drew.alloc (.cells (bytesRow ⟨l.toArray⟩ cap) e fr)) := (Chg.drew [] W).trans (Chg.alloc [] W.drew _)
  have h4 := h.world hW
  refine ⟨_, _, β, hrun, ?_⟩
  have hb : (W.drew.alloc (.cells (bytesRow ⟨l.toArray⟩ cap) e fr)).heap[W.heap.size]? = some (.cells (bytesRow ⟨l.toArray⟩ cap) e fr) := al_new (w := W.drew) rfl
  refine h4.put d hd (x := .sl 1 (bytesR l)) (by simp [V.refs]) ⟨some ⟨W.heap.size, 0, none⟩, cap, by rw [bytesR_len], by rw [bytesR_len]; exact c1, c2, (fun e => by cases e), bytesR_row l, bytesR_clean l, fun y hy => ?_⟩
  injection hy with hy; subst hy
  refine ⟨fun _ => rfl, AtR.flat.2 (AtL.of_get fun i hi => ?_)⟩
  have hi' : i < l.length := by rw [flatten_len (bytesR_row l), bytesR_len] at hi; omega
  refine ⟨fun q => by have := h.objs.mut_lt q; simp only at this; omega, .int .u8 (l[i].toNat : Int), ?_, rfl, ?_⟩
  · show (W.drew.alloc _).cell? ⟨W.heap.size, 0 + i, none⟩ = _
    rw [cell_of_row _ _ _ _ _ _ hb]
    unfold bytesRow
    rw [Array.getElem?_append_left (by simp; omega), Array.getElem?_map]
    simp [List.getElem?_eq_getElem hi']
  · obtain ⟨_, e⟩ := bytesR_get l i hi'
    rw [e]; rfl

def bornV (i : Nat) (l : List V) : List V := if prv i = true then l.map fun _ => .any else l
theorem bornV_no {i : Nat} {l : List V} (h : prv i = false) : bornV i l = l := by unfold bornV; rw [h]; rfl
theorem bornV_len (i : Nat) (l : List V) : (bornV i l).length = l.length := by unfold bornV; split <;> simp
theorem any_refsL : ∀ l : List V, V.refsL (l.map fun _ => V.any) = []
  | [] => rfl
  | x :: xs => by rw [List.map_cons, V.refsL, any_refsL xs]; rfl
theorem bornV_refsL (i : Nat) {l : List V} (h : V.refsL l = []) : V.refsL (bornV i l) = [] := by unfold bornV; split; exact any_refsL l; exact h
theorem any_repL (S : Sit) : ∀ {l : List V} {vs : List Value}, vs.length = l.length → RepL S (l.map fun _ => V.any) vs
  | [], vs, h => List.eq_nil_of_length_eq_zero h
  | x :: xs, [], h => by simp at h
  | x :: xs, v :: vs, h => ⟨v, vs, rfl, trivial, any_repL S (by simpa using h)⟩
theorem bornV_repL (S : Sit) (i : Nat) {l : List V} {vs : List Value} (h : RepL S l vs) : RepL S (bornV i l) vs := by
  unfold bornV; split
  · exact any_repL S (RepL.length h)
  · exact h
theorem born_rows {S : Sit} {r : List V} {z : List Value} (h : RepL S r z) : ∀ n : Nat, RepL S (zrows n r) (zrows n z)
  | 0 => rfl
  | n + 1 => by
    have := h.append (born_rows h n)
    simpa [zrows, List.replicate_succ] using this
def makeSliceV (τ : TT) (T : TypeId) (l c : V) (d : Option Nat) : Option Res :=
  match τ T, l, c, d with
  | some ti, .int _ n, .int _ m, some i => (match ti.k with
    | .slc e => (match τ e with
      | some te => if 0 < te.size ∧ te.bytes ≤ 1000 ∧ te.size ≤ 1000 then some ⟨0 ≤ n ∧ n ≤ m ∧ m ≤ (if te.size + te.bytes = 2 then 100000 else 10000), .own i n.toNat, .new (.arr te.size e (List.replicate n.toNat (bornV i (te.zero.map ofVal))))⟩ else none
      | none => none)
    | _ => none)
  | _, _, _, _ => none
theorem makeSliceV_ok {τ : TT} (hτ : TTOk P τ) (h : Sim F β s a W) (hd : ∀ i, d = some i → i < F.n) {T : TypeId} {x y : V} {r : Res} (hr : makeSliceV τ T x y d = some r) (hot : Bool) (hp : (heatB hot r).pre) (hn : ∀ i, d = some i → s.o i = none) {u v : Value} (hx : Rep (sit F β s.o W) x u) (hy : Rep (sit F β s.o W) y v) :
    Does P F (Instr.makeSlice T u v) s a W d (heatB hot r) := by
  unfold makeSliceV at hr
  split at hr <;> try (cases hr; done)
  rename_i ti kn n km m i hti
  split at hr <;> try (cases hr; done)
  rename_i e hk
  split at hr <;> try (cases hr; done)
  rename_i te hte
  split at hr <;> try (cases hr; done)
  rename_i hlim
  obtain ⟨hpos, hby, hsz⟩ := hlim
  injection hr with hr; subst hr
  obtain ⟨p1, p2, p3⟩ := (heat_pre hp : 0 ≤ n ∧ n ≤ m ∧ m ≤ (if te.size + te.bytes = 2 then 100000 else 10000))
  have hx : u = .int kn n := hx
  have hy : v = .int km m := hy
  subst hx; subst hy
  have hkk := (hτ T ti hti).k
  rw [hk] at hkk
  have hok := hτ e te hte
  obtain ⟨inf, z, i1, i2, i3, i4, i5⟩ := hok.info
  obtain ⟨n', rfl⟩ := Int.eq_ofNat_of_zero_le p1
  obtain ⟨m', rfl⟩ := Int.eq_ofNat_of_zero_le (Int.le_trans p1 p2)
  have hnm : n' ≤ m' := by omega
  have hq : m' * te.size ≤ 10000000 ∧ te.bytes * m' ≤ 10000000 ∧ m' ≤ 100000 := by
    split at p3
    · have h1 : te.size ≤ 2 := by omega
      have h2 : te.bytes ≤ 2 := by omega
      have hm : m' ≤ 100000 := by omega
      have := Nat.mul_le_mul hm h1
      have := Nat.mul_le_mul h2 hm
      omega
    · have hm : m' ≤ 10000 := by omega
      have := Nat.mul_le_mul hm hsz
      have := Nat.mul_le_mul hby hm
      omega
  obtain ⟨q1, q2, hm⟩ := hq
  have hrun := run_makeSlice (P := P) W T e inf z hkk i1 i4 kn km n' m' p1 p2 (by
    rw [i2]; simp only [Int.toNat_natCast]
    omega) (by
    rw [i3]
    have h2 : ((te.bytes * m' : Nat) : Int) ≤ 10000000 := by omega
    rw [Int.natCast_mul] at h2; omega) (by omega)
  simp only [Int.toNat_natCast] at hrun ⊢
  have hzl : z.cells.toList.length = te.size := by rw [i5]; exact hok.zlen
  have hmade : madeCells z.cells (m' * inf.size) = (zrows n' te.zero ++ zrows (m' - n') te.zero).toArray := by
    apply Array.ext'
    have e1 : zrows n' te.zero ++ zrows (m' - n') te.zero = zrows m' te.zero := by
      unfold zrows
      rw [← List.flatten_append, List.replicate_append_replicate, show n' + (m' - n') = m' from by omega]
    rw [e1, ← i5, zrows_get m' _ (by rw [hzl]; exact hpos), i2]
    unfold madeCells
    have hzl' : z.cells.size = te.size := by rw [← hzl]; simp
    simp [hzl']
  rw [hmade] at hrun
  have hfl : (List.replicate n' (bornV i (te.zero.map ofVal))).flatten = zrows n' (bornV i (te.zero.map ofVal)) := rfl
  refine newRow_arr (c := m') (xs := zrows n' te.zero) (ys := zrows (m' - n') te.zero) h (hd i rfl) (hn i rfl) te.size e (by simp) (fun r hr => ?_) (fun r hr => ?_) (fun w hw => hok.zone w (zrows_mem hw)) ?_ hnm (by unfold maxLen; omega) ?_ hrun hot hp
  · rw [(List.mem_replicate.1 hr).2, bornV_len, List.length_map, hok.zlen]
  · rw [(List.mem_replicate.1 hr).2]; exact bornV_refsL _ (ofVal_refsL _)
  · rw [hfl]; exact born_rows (bornV_repL _ _ (ofVal_repL _ _)) _
  · rw [List.length_append, zrows_len, zrows_len, hok.zlen, ← Nat.add_mul]; congr 1; omega

def findM : List (List UInt8 × V) → List UInt8 → Option V
  | [], _ => none
  | (k, v) :: r, key => if key = k then some v else findM r key
def setM : List (List UInt8 × V) → List UInt8 → V → List (List UInt8 × V)
  | [], key, v => [(key, v)]
  | (k, x) :: r, key, v => if key = k then (k, v) :: r else (k, x) :: setM r key v
theorem bytes_beq (a b : List UInt8) : ((⟨a.toArray⟩ : ByteArray) == ⟨b.toArray⟩) = decide (a = b) := by
  rw [Bool.eq_iff_iff, MapKept.bytes_beq, decide_eq_true_iff]
  exact ⟨fun q => by injection q with q; injection q, fun q => by rw [q]⟩
theorem find_mapE {S : Sit} (key : List UInt8) : ∀ (es : List (List UInt8 × V)) (vs : List Value) (n i : Nat), RepL S (es.map (·.2)) vs →
    (findM es key = none ∧ Instr.findNow .string (.string ⟨key.toArray⟩) (mapE n (es.map (·.1)) vs) i = some none ∧ ∀ v, setM es key v = es ++ [(key, v)]) ∨
    (∃ p x u, findM es key = some x ∧ Instr.findNow .string (.string ⟨key.toArray⟩) (mapE n (es.map (·.1)) vs) i = some (some (i + p, u)) ∧ vs[p]? = some u ∧ Rep S x u ∧ es[p]? = some (key, x) ∧ ∀ v, setM es key v = es.set p (key, v))
  | [], vs, n, i, h => .inl ⟨rfl, rfl, fun v => rfl⟩
  | (k, x) :: r, vs, n, i, h => by
    obtain ⟨u, us, rfl, h1, h2⟩ := h
    by_cases e : key = k
    · subst e
      refine .inr ⟨0, x, u, if_pos rfl, ?_, rfl, h1, rfl, fun v => by unfold setM; rw [if_pos rfl]; rfl⟩
      simp only [List.map_cons, mapE, Instr.findNow, Instr.sameNow, bytes_beq, decide_true, Nat.add_zero]
    · have hs : Instr.sameNow .string (.string ⟨key.toArray⟩) (.string ⟨k.toArray⟩) = some false := by
        simp only [Instr.sameNow, bytes_beq, decide_eq_false e]
      have hnow : ∀ j, Instr.findNow .string (.string ⟨key.toArray⟩) (mapE n (((k, x) :: r).map (·.1)) (u :: us)) j = Instr.findNow .string (.string ⟨key.toArray⟩) (mapE (n + 1) (r.map (·.1)) us) (j + 1) := fun j => by
        simp only [List.map_cons, mapE, Instr.findNow, hs]
      rcases find_mapE key r us (n + 1) (i + 1) h2 with ⟨g1, g2, g3⟩ | ⟨p, y, w, g1, g2, g3, g4, g5, g6⟩
      · refine .inl ⟨by unfold findM; rw [if_neg e]; exact g1, by rw [hnow]; exact g2, fun v => by unfold setM; rw [if_neg e, g3]; rfl⟩
      · refine .inr ⟨p + 1, y, w, by unfold findM; rw [if_neg e]; exact g1, by rw [hnow, g2]; congr 3; omega, g3, g4, g5, fun v => by unfold setM; rw [if_neg e, g6]; rfl⟩
theorem mapE_snoc (k : List UInt8) (v : Value) : ∀ (ks : List (List UInt8)) (vs : List Value) (n : Nat), vs.length = ks.length → mapE n (ks ++ [k]) (vs ++ [v]) = mapE n ks vs ++ [{ key := .string ⟨k.toArray⟩, val := v, born := n + ks.length }]
  | [], [], _, _ => rfl
  | a :: ks, b :: vs, n, h => by
    simp only [List.cons_append, mapE, List.length_cons]
    rw [mapE_snoc k v ks vs (n + 1) (by simpa using h), show n + 1 + ks.length = n + (ks.length + 1) by omega]
  | [], _ :: _, _, h => by simp at h
  | _ :: _, [], _, h => by simp at h
theorem mapE_at (v : Value) : ∀ (ks : List (List UInt8)) (vs : List Value) (n p : Nat) (k : List UInt8), vs.length = ks.length → ks[p]? = some k →
    (∃ u, (mapE n ks vs)[p]? = some { key := .string ⟨k.toArray⟩, val := u, born := n + p }) ∧ (mapE n ks vs).modify p (fun e => { e with key := .string ⟨k.toArray⟩, val := v }) = mapE n ks (vs.set p v)
  | a :: ks, b :: vs, n, 0, k, h, hp => by
    have : a = k := by simpa using hp
    subst this
    exact ⟨⟨b, rfl⟩, rfl⟩
  | a :: ks, b :: vs, n, p + 1, k, h, hp => by
    obtain ⟨⟨u, h1⟩, h2⟩ := mapE_at v ks vs (n + 1) p k (by simpa using h) (by simpa using hp)
    refine ⟨⟨u, ?_⟩, ?_⟩
    · simp only [mapE, List.getElem?_cons_succ, h1]; rw [show n + 1 + p = n + (p + 1) by omega]
    · simp only [mapE, List.modify_succ_cons, List.set_cons_succ, h2]
  | [], _ :: _, _, _, _, h, _ => by simp at h
  | _ :: _, [], _, _, _, h, _ => by simp at h
  | [], [], _, _, _, _, hp => by simp at hp
theorem map_keys (es : List (List UInt8 × V)) (key : List UInt8) (v x : V) (p : Nat) (h : es[p]? = some (key, x)) : (es.set p (key, v)).map (·.1) = es.map (·.1) ∧ (es.set p (key, v)).map (·.2) = (es.map (·.2)).set p v := by
  refine ⟨?_, by rw [List.map_set]⟩
  rw [List.map_set]
  refine List.ext_getElem? fun j => ?_
  rw [List.getElem?_set]
  split
  · rename_i e; subst e
    have hp : p < es.length := (List.getElem?_eq_some_iff.1 h).1
    rw [if_pos (by simpa using hp), List.getElem?_map, h]; rfl
  · rfl

theorem refsL_nil_of_all {l : List V} (h : ∀ x ∈ l, x.refs = []) : V.refsL l = [] := by
  induction l with
  | nil => rfl
  | cons x xs ih => rw [V.refsL, h x List.mem_cons_self, ih (fun y hy => h y (List.mem_cons_of_mem _ hy))]; rfl
theorem cell_map {w : World} {b p : Nat} {es : Array MapEntry} {c : Nat} (h : w.heap[b]? = some (.map es c)) : w.cell? ⟨b, p, none⟩ = none := by unfold World.cell?; rw [h]
theorem Sim.newMap (h : Sim F β s a W) {d : Nat} (hd : s.o d = none) (hn : d < 1000000) :
    Sim F ⟨up β.pb d W.heap.size, up β.sv d undef⟩ ⟨s.t, up s.o d (some (.map []))⟩ a (W.alloc (.map #[] 0)) := by
  obtain ⟨hC, hR, hI⟩ := new_common h.objs h.closed hd (.map []) (Chg.alloc [] W (.map #[] 0)) W.heap.size undef (Nat.le_refl _)
  have hR2 : ∀ r, RefOk s.o r → RefOk (up s.o d (some (.map []))) r := fun r hr => (refOk_new hd _ r hr).2
  refine ⟨⟨h.objs.base.step (h.objs.chg.trans (Chg.alloc _ _ _)) (new_blk (W := W) (.map []) _ _ (Nat.le_refl _)) (new_kin hd hn _ _ _) hC, fun o T' c' ho => ?_, fun o k E rows ho => ?_, hI, fun o es ho => ?_⟩, ⟨fun i r hr => hR2 r (h.closed.t i r hr), fun o T' c' ho => ?_⟩, fun i => move_all hC hR (h.closed.t i) (h.frame i), h.defers.chg (Chg.alloc [] W _) (by simp), h.size⟩
  · by_cases e : o = d
    · subst e; simp only [up_same] at ho; cases ho
    · simp only [up_other _ _ e] at ho ⊢
      obtain ⟨g1, us, rs, g2, g3, g4⟩ := h.objs.box o T' c' ho
      exact ⟨g1, us, rs, al_old g2, g3, move_allL hC hR (h.closed.o o T' c' ho) g4⟩
  · by_cases e : o = d
    · subst e; simp only [up_same] at ho; cases ho
    · simp only [up_other _ _ e] at ho ⊢
      obtain ⟨g1, g2, g0, xs, g3, g4, g5⟩ := h.objs.arr o k E rows ho
      exact ⟨g1, g2, g0, xs, g3.alloc _, g4, move_allL hC hR (by rw [clean_flat g2]; simp) g5⟩
  · by_cases e : o = d
    · subst e
      simp only [up_same] at ho; injection ho with ho; injection ho with e1; subst e1
      exact ⟨.inr (by simp only [up_same]; exact h.objs.chg.size), rfl, [], by simp only [up_same]; exact heap_alloc_new W _, rfl⟩
    · simp only [up_other _ _ e] at ho
      exact (h.objs.map o es ho).keep (by simp only [up_other _ _ e]) (fun x hx => al_old hx) hC
  · intro r hr'
    by_cases e : o = d
    · subst e; simp only [up_same] at ho; cases ho
    · simp only [up_other _ _ e] at ho
      exact hR2 r (h.closed.o o T' c' ho r hr')
theorem Sim.setMap (h : Sim F β s a W) {o : Nat} {es es' : List (List UInt8 × V)} (ho : s.o o = some (.map es)) {X : Obj} {W' : World} (hWe : W' = { W with heap := W.heap.setIfInBounds (β.pb o) X })
    {vs : List Value} (hX : X = .map (mapE 0 (es'.map (·.1)) vs).toArray es'.length) (hcl : V.refsL (es'.map (·.2)) = []) (hv : RepL (sit F β s.o W) (es'.map (·.2)) vs) :
    Sim F β ⟨s.t, up s.o o (some (.map es'))⟩ a W' := by
  obtain ⟨hb, _, vs0, hold, _⟩ := h.objs.map o es ho
  have hlt := lt_of_block hold
  have hoth : ∀ j, j ≠ β.pb o → W'.heap[j]? = W.heap[j]? := fun j hj => by rw [hWe]; simp only [Array.getElem?_setIfInBounds]; rw [if_neg (Ne.symm hj)]
  have hnew : W'.heap[β.pb o]? = some X := by rw [hWe]; simp only [Array.getElem?_setIfInBounds, if_true, hlt]
  have hW : Chg [β.pb o] W W' := ⟨by rw [hWe], by rw [hWe], by rw [hWe], by rw [hWe]; simp, fun j hj hn => hoth j (by simpa using hn)⟩
  have hMut : ∀ b p, Mut F β (up s.o o (some (.map es'))) b p → Mut F β s.o b p := by
    rintro b p (g | ⟨o', T', c'', g1, g2⟩ | ⟨o', k, E, rows, g1, g2, g3⟩)
    · exact .inl g
    · by_cases e : o' = o
      · subst e; rw [up_same] at g1; cases g1
      · rw [up_other _ _ e] at g1; exact .inr (.inl ⟨o', T', c'', g1, g2⟩)
    · by_cases e : o' = o
      · subst e; rw [up_same] at g1; cases g1
      · rw [up_other _ _ e] at g1; exact .inr (.inr ⟨o', k, E, rows, g1, g2, g3⟩)
  have hC : ∀ b p c, ¬ Mut F β s.o b p → W.cell? ⟨b, p, none⟩ = some c → ¬ Mut F β (up s.o o (some (.map es'))) b p ∧ W'.cell? ⟨b, p, none⟩ = some c := fun b p u g1 g2 =>
    ⟨fun g => g1 (hMut b p g), hW.cell g2 (by rw [List.mem_singleton]; intro e; simp only at e; subst e; rw [cell_map hold] at g2; cases g2)⟩
  have hR2 : ∀ r, RefOk s.o r → RefOk (up s.o o (some (.map es'))) r := by
    rintro ⟨o', _ | n⟩ g
    · obtain ⟨y, g, gp⟩ := g
      by_cases e : o' = o
      · subst e; exact ⟨_, up_same _ _ _, rfl⟩
      · exact ⟨y, by rw [up_other _ _ e]; exact g, gp⟩
    · obtain ⟨k, E, rows, g, g2⟩ := g
      by_cases e : o' = o
      · subst e; rw [ho] at g; cases g
      · exact ⟨k, E, rows, by rw [up_other _ _ e]; exact g, g2⟩
  have hR : ∀ r, RefOk s.o r → SameRef (sit F β s.o W) (sit F β (up s.o o (some (.map es'))) W') r := by
    rintro ⟨o', _ | n⟩ g
    · rfl
    · intro u hu
      have hu : svOf _ _ o' n = some u := hu
      show svOf _ _ o' n = some u
      obtain ⟨k, E, rows, g, g2⟩ := g
      have e : o' ≠ o := fun e => by rw [e, ho] at g; cases g
      unfold svOf at hu ⊢
      rw [up_other _ _ e] at hu; exact hu
  have hblk : ∀ o', blk β (up s.o o (some (.map es'))) o' = blk β s.o o' := fun o' => by
    unfold blk
    by_cases e : o' = o
    · subst e; simp only [up_same, ho]
    · simp only [up_other _ _ e]
  have hkin : ∀ o', (up s.o o (some (.map es'))) o' = none ∨ (s.o o' = none ∧ o' < 1000000) ∨ (s.o o' ≠ none ∧ Kin β β o' (s.o o') ((up s.o o (some (.map es'))) o')) := fun o' => by
    by_cases e : o' = o
    · subst e; exact .inr (.inr ⟨by rw [ho]; simp, by rw [ho, up_same]; exact rfl⟩)
    · rw [up_other _ _ e]
      cases hx : s.o o' with
      | none => exact .inl rfl
      | some x => exact .inr (.inr ⟨by simp, Kin.refl _ _ _⟩)
  refine ⟨⟨h.objs.base.step (h.objs.chg.toL hW hb) (fun o' b q => .inl ⟨o', by rw [← hblk]; exact q⟩) hkin hC, fun o' T' c'' g => ?_, fun o' k E rows g => ?_, fun o1 o2 b g1 g2 => h.objs.inj o1 o2 b (by rw [← hblk]; exact g1) (by rw [← hblk]; exact g2), fun o' es2 g => ?_⟩,
    ⟨fun i r hr => hR2 r (h.closed.t i r hr), fun o' T' c'' g r hr' => ?_⟩, fun i => move_all hC hR (h.closed.t i) (h.frame i), h.defers.chg hW (fun b hb q => by rw [List.mem_singleton] at hb; subst hb; exact h.objs.not_def (o := o) (by unfold blk; simp only [ho]) q), h.size⟩
  · by_cases e : o' = o
    · subst e; simp only [up_same] at g; cases g
    · simp only [up_other _ _ e] at g
      obtain ⟨g1, us, rs, g2, g3, g4⟩ := h.objs.box o' T' c'' g
      exact ⟨g1, us, rs, hW.heap g2 (by rw [List.mem_singleton]; intro q; exact e (h.objs.inj o' o (β.pb o) (by unfold blk; simp only [g, q]) (by unfold blk; simp only [ho]))), g3, move_allL hC hR (h.closed.o o' T' c'' g) g4⟩
  · by_cases e : o' = o
    · subst e; simp only [up_same] at g; cases g
    · simp only [up_other _ _ e] at g
      obtain ⟨g1, g2, g0, xs, g3, g4, g5⟩ := h.objs.arr o' k E rows g
      refine ⟨g1, g2, g0, xs, ownK_keep g3 hW (fun j hj => ?_), g4, move_allL hC hR (by rw [clean_flat g2]; simp) g5⟩
      rw [List.mem_singleton]; intro q; subst q
      exact e (h.objs.inj o' o (β.pb o) (by unfold blk; simp only [g]; simpa [own] using hj) (by unfold blk; simp only [ho]))
  · by_cases e : o' = o
    · subst e
      simp only [up_same] at g; injection g with g; injection g with e1; subst e1
      exact ⟨hb, hcl, vs, by rw [hnew, hX], move_allL hC hR (by rw [hcl]; simp) hv⟩
    · simp only [up_other _ _ e] at g
      exact (h.objs.map o' es2 g).keep rfl (fun x hx => hW.heap hx (by rw [List.mem_singleton]; intro q; exact e (h.objs.inj o' o (β.pb o) (by unfold blk; simp only [g, q]) (by unfold blk; simp only [ho])))) hC
  · by_cases e : o' = o
    · subst e; simp only [up_same] at g; cases g
    · simp only [up_other _ _ e] at g
      exact hR2 r (h.closed.o o' T' c'' g r hr')

def mapNewV (d : Option Nat) : Option Res := match d with
  | some i => some ⟨True, .mp i, .new (.map [])⟩
  | none => none
theorem mapNewV_ok (h : Sim F β s a W) (hd : ∀ i, d = some i → i < F.n) {T : TypeId} {r : Res} (hr : mapNewV d = some r) (hn : ∀ i, d = some i → s.o i = none) : Does P F (Instr.makeMap T none) s a W d r := by
  unfold mapNewV at hr
  split at hr <;> try (cases hr; done)
  rename_i i
  injection hr with hr; subst hr
  have h2 := h.newMap (hn i rfl) (Nat.lt_of_lt_of_le (hd i rfl) h.objs.base.nn)
  refine ⟨.map (some W.heap.size), _, ⟨up β.pb i W.heap.size, up β.sv i undef⟩, ?_, h2.put (some i) hd (x := .mp i) (by
    intro r hr; simp only [V.refs, List.mem_singleton] at hr; subst hr; exact ⟨_, up_same _ _ _, rfl⟩) (by
    show _ = Value.map (some (up β.pb i W.heap.size i)); rw [up_same])⟩
  simp [Instr.makeMap]
def mapKB (τ : TT) (T : TypeId) : Bool := match τ T with
  | some ti => (match ti.k with
    | .map kt et => (match τ kt with
      | some tk => (match tk.k with
        | .str => (τ et).isSome
        | _ => false)
      | none => false)
    | _ => false)
  | none => false
theorem mapKB_ok {τ : TT} (hτ : TTOk P τ) {T : TypeId} (h : mapKB τ T = true) : ∃ ti kt et te, τ T = some ti ∧ ti.k = .map kt et ∧ P.underlying T = some (.map kt et) ∧ P.underlying kt = some .string ∧ τ et = some te ∧ TIOk P et te := by
  unfold mapKB at h
  split at h <;> try (cases h; done)
  rename_i ti hti
  split at h <;> try (cases h; done)
  rename_i kt et hk
  split at h <;> try (cases h; done)
  rename_i tk htk
  split at h <;> try (cases h; done)
  rename_i hs
  have h1 := (hτ T ti hti).k
  rw [hk] at h1
  have h2 := (hτ kt tk htk).k
  rw [hs] at h2
  cases hte : τ et with
  | none => rw [hte] at h; cases h
  | some te => exact ⟨ti, kt, et, te, hti, hk, h1, h2, hte, hτ et te hte⟩
def mapSetV (τ : TT) (T : TypeId) (x k : V) (vv : Option V) (ob : Option Ob) : Option Res :=
  match x, k, vv, ob with
  | .mp o, .str key, some v, some (.map es) => if mapKB τ T = true then some ⟨True, .any, .set o (.map (setM es key v))⟩ else none
  | _, _, _, _ => none
theorem mapSetV_ok {τ : TT} (hτ : TTOk P τ) (h : Sim F β s a W) (hd : ∀ i, d = some i → i < F.n) {T : TypeId} {x k y : V} {r : Res} (hr : mapSetV τ T x k (view s.o y) (obV s.o x) = some r) {vx vk u : Value}
    (hx : Rep (sit F β s.o W) x vx) (hk : Rep (sit F β s.o W) k vk) (hy : Rep (sit F β s.o W) y u) : ∃ W' β', (Instr.mapUpdate T vx vk u).run P W = .ok () W' ∧ Sim F β' (s.app d r) (a.put d undef) W' := by
  unfold mapSetV at hr
  split at hr <;> try (cases hr; done)
  rename_i o key v es hv ho
  split at hr <;> try (cases hr; done)
  rename_i hkb
  injection hr with hr; subst hr
  obtain ⟨ti, kt, et, te, h1, h2, h3, h4, h5, h6⟩ := mapKB_ok hτ hkb
  have hx : vx = .map (some (β.pb o)) := hx
  have hk : vk = .string ⟨key.toArray⟩ := hk
  subst hx; subst hk
  have ho : s.o o = some (.map es) := ho
  obtain ⟨hb, hcl, vs, hheap, hrep⟩ := h.objs.map o es ho
  obtain ⟨g1, g2⟩ := view_rep h.objs _ _ _ hv hy
  have hlen := RepL.length hrep
  have hc : (Instr.checkKey false 10000 kt (.string ⟨key.toArray⟩)).run P W = .ok () W := MapKept.run_checkKey (k := .string ⟨key.toArray⟩) h4 (by simp [MapKept.IsKey]) false 9999
  rcases find_mapE key es vs 0 0 hrep with ⟨f1, f2, f3⟩ | ⟨p, y0, w, f1, f2, f3, f4, f5, f6⟩
  · refine ⟨{ W with heap := W.heap.setIfInBounds (β.pb o) (.map ((mapE 0 (es.map (·.1)) vs).toArray.push { key := .string ⟨key.toArray⟩, val := u, born := es.length }) (es.length + 1)) }, β, ?_, ?_⟩
    · simp [Instr.mapUpdate, run_underlying h3, MapKept.run_getObj_map hheap, hc, MapKept.run_findKey h4 f2, MapKept.run_setObj_map _ hheap, Result.andThen]
    · rw [app_set]
      refine Sim.put (s := ⟨s.t, _⟩) (h.setMap ho (es' := setM es key v) rfl (vs := vs ++ [u]) ?_ ?_ ?_) d hd (x := .any) (by simp [V.refs]) trivial
      · rw [f3]
        simp only [List.map_append, List.map_cons, List.map_nil, List.length_append, List.length_cons, List.length_nil, Nat.zero_add]
        rw [mapE_snoc key u _ vs 0 (by simpa using hlen)]
        simp
      · rw [f3, List.map_append, refsL_append, hcl]; simp [V.refsL, g2]
      · rw [f3, List.map_append]; exact RepL.append hrep ⟨u, [], rfl, g1, rfl⟩
  · obtain ⟨k1, k2⟩ := map_keys es key v y0 p f5
    have hks : (es.map (·.1))[p]? = some key := by rw [List.getElem?_map, f5]; rfl
    obtain ⟨⟨u0, q1⟩, q2⟩ := mapE_at u (es.map (·.1)) vs 0 p key (by simpa using hlen) hks
    have hst : (Instr.keyThatStays (.string ⟨key.toArray⟩) (.string ⟨key.toArray⟩)).run P W = .ok (.string ⟨key.toArray⟩) W := MapKept.run_keyThatStays (d := .string) (by simp [MapKept.IsKey])
    refine ⟨{ W with heap := W.heap.setIfInBounds (β.pb o) (.map ((mapE 0 (es.map (·.1)) vs).toArray.modify p fun e => { e with key := .string ⟨key.toArray⟩, val := u }) es.length) }, β, ?_, ?_⟩
    · rw [Nat.zero_add] at f2
      simp [Instr.mapUpdate, run_underlying h3, MapKept.run_getObj_map hheap, hc, MapKept.run_findKey h4 f2, MapKept.run_setObj_map _ hheap, Result.andThen, q1, hst]
    · rw [app_set]
      refine Sim.put (s := ⟨s.t, _⟩) (h.setMap ho (es' := setM es key v) rfl (vs := vs.set p u) ?_ ?_ ?_) d hd (x := .any) (by simp [V.refs]) trivial
      · rw [f6, k1, ← q2]
        simp
      · rw [f6, k2]
        refine refsL_nil_of_all fun x hx => ?_
        rcases List.mem_or_eq_of_mem_set hx with hx | hx
        · exact refsL_nil_of hcl hx
        · rw [hx]; exact g2
      · rw [f6, k2]; exact RepL.set p hrep g1
def zeroV (te : TI) : V := match te.k.row, te.zero with
  | false, [z] => ofVal z
  | true, l => .agg (l.map ofVal)
  | _, _ => .any
theorem zeroV_refs (te : TI) : (zeroV te).refs = [] := by
  unfold zeroV
  split
  · exact ofVal_refs _
  · exact ofVal_refsL _
  · rfl
theorem zeroV_ok {t : TypeId} {te : TI} (h : TIOk P t te) (S : Sit) (w : World) : ∃ z, (zeroValue t).run P w = .ok z w ∧ Rep S (zeroV te) z := by
  obtain ⟨i, z, h1, h2, h3, h4, h5⟩ := h.info
  refine ⟨z, by simp [Go.zeroValue, typeInfo, h1, h4], ?_⟩
  unfold zeroV
  split
  · rename_i y hrow hz
    have h6 := h.zcell hrow i z h1 h4
    have h7 : z.cells = #[z] := by cases z <;> first | rfl | (simp [Value.oneCell'] at h6)
    rw [h7, hz] at h5
    have : z = y := by simpa using h5
    rw [this]; exact ofVal_rep S y
  · rename_i hrow
    obtain ⟨cs, hcs⟩ := h.zagg hrow i z h1 h4
    subst hcs
    have h5 : cs.toList = te.zero := h5
    refine ⟨te.zero, by rw [← h5], h.zone, ?_⟩
    exact ofVal_repL S te.zero
  · trivial
def lookupV (τ : TT) (T : TypeId) (x k : V) (okc : Bool) (ob : Option Ob) : Option Res :=
  match x, k, ob with
  | .mp _, .str key, some (.map es) => if mapKB τ T = true then (match τ T with
    | some ti => (match ti.k with
      | .map _ et => (match τ et with
        | some te => ok (if okc then .tup [(findM es key).getD (zeroV te), .bool (findM es key).isSome] else (findM es key).getD (zeroV te))
        | none => none)
      | _ => none)
    | none => none) else none
  | _, _, _ => none
theorem findM_refs {es : List (List UInt8 × V)} {key : List UInt8} {v : V} (hcl : V.refsL (es.map (·.2)) = []) (h : findM es key = some v) : v.refs = [] := by
  induction es with
  | nil => cases h
  | cons p r ih =>
    obtain ⟨k, x⟩ := p
    have hcl : x.refs ++ V.refsL (r.map (·.2)) = [] := hcl
    rw [List.append_eq_nil_iff] at hcl
    unfold findM at h
    split at h
    · injection h with h; subst h; exact hcl.1
    · exact ih hcl.2 h
theorem lookupV_ok {τ : TT} (hτ : TTOk P τ) (h : Sim F β s a W) (hd : ∀ i, d = some i → i < F.n) {T : TypeId} {x k : V} {okc : Bool} {r : Res} (hr : lookupV τ T x k okc (obV s.o x) = some r) {vx vk : Value}
    (hx : Rep (sit F β s.o W) x vx) (hk : Rep (sit F β s.o W) k vk) : Does P F (Instr.lookup T vx vk okc) s a W d r := by
  unfold lookupV at hr
  split at hr <;> try (cases hr; done)
  rename_i o key es ho
  split at hr <;> try (cases hr; done)
  rename_i hkb
  obtain ⟨ti, kt, et, te, h1, h2, h3, h4, h5, h6⟩ := mapKB_ok hτ hkb
  rw [h1] at hr
  simp only [h2, h5] at hr
  injection hr with hr; subst hr
  have hx : vx = .map (some (β.pb o)) := hx
  have hk : vk = .string ⟨key.toArray⟩ := hk
  subst hx; subst hk
  have ho : s.o o = some (.map es) := ho
  obtain ⟨hb, hcl, vs, hheap, hrep⟩ := h.objs.map o es ho
  have hc : ∀ b, (Instr.checkKey b 10000 kt (.string ⟨key.toArray⟩)).run P W = .ok () W := fun b => MapKept.run_checkKey (k := .string ⟨key.toArray⟩) h4 (by simp [MapKept.IsKey]) b 9999
  obtain ⟨z, z1, z2⟩ := zeroV_ok h6 (sit F β s.o W) W
  rcases find_mapE key es vs 0 0 hrep with ⟨f1, f2, f3⟩ | ⟨p, y0, w, f1, f2, f3, f4, f5, f6⟩
  · rw [f1]
    simp only [Option.getD_none, Option.isSome_none]
    have hm : (Instr.lookup T (.map (some (β.pb o))) (.string ⟨key.toArray⟩) okc).run P W = .ok (if okc then .tuple #[z, .bool false] else z) W := by
      simp [Instr.lookup, run_underlying h3, MapKept.run_getObj_map hheap, hc, MapKept.run_findKey h4 f2, z1, Result.andThen]
    cases okc with
    | true => exact does_val h hd rfl hm ⟨[z, .bool false], rfl, z, _, rfl, z2, _, _, rfl, rfl, rfl⟩ (by show ∀ q ∈ V.refsL [zeroV te, .bool false], _; simp [V.refsL, V.refs, zeroV_refs])
    | false => exact does_val h hd rfl hm z2 (by show ∀ q ∈ (zeroV te).refs, _; rw [zeroV_refs]; simp)
  · rw [f1]
    simp only [Option.getD_some, Option.isSome_some]
    have hrf := findM_refs hcl f1
    rw [Nat.zero_add] at f2
    have hm : (Instr.lookup T (.map (some (β.pb o))) (.string ⟨key.toArray⟩) okc).run P W = .ok (if okc then .tuple #[w, .bool true] else w) W := by
      simp [Instr.lookup, run_underlying h3, MapKept.run_getObj_map hheap, hc, MapKept.run_findKey h4 f2, Result.andThen]
    cases okc with
    | true => exact does_val h hd rfl hm ⟨[w, .bool true], rfl, w, _, rfl, f4, _, _, rfl, rfl, rfl⟩ (by show ∀ q ∈ V.refsL [y0, .bool true], _; simp [V.refsL, V.refs, hrf])
    | false => exact does_val h hd rfl hm f4 (by show ∀ q ∈ y0.refs, _; rw [hrf]; simp)
end
end Go.Proofs.YtedbbinlcdgkoaaGreatDoor
