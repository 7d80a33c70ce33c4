/- The machine over data: addresses, slices, append, conversions, calls. -/
import Derived.Test.YtgbgpidimipfjaaAbq
import Derived.Lib.ConvBytes
namespace Go.Proofs.Ytgbgpidimipfjaa
open Go.RowKit Go.Sort
set_option linter.unusedVariables false

section
variable {P : Program} {d : Option Tmp} {ty : TypeId} {pos : String} {af : Array Edge} {g : Option (Nat × Bool)}
/-! addresses -/
theorem run_fieldAt {s : TypeId} {f : Nat} {fs : Array Field} {off k : Nat} (hu : P.underlying s = some (.struct fs)) (hf : (fs[f]?).map (·.offset) = some off)
    (hk : ((fs[f]?).bind fun x => (P.info? x.type).map (·.size)) = some (k + 1)) {w : World} {b o : Nat} :
    (Instr.fieldAt s (.pointer (some ⟨b, o, none⟩)) f).run P w = .ok (.pointer (some ⟨b, o + off, none⟩)) w := by
  cases hq : fs[f]? with
  | none => simp [hq] at hf
  | some z =>
    simp [hq] at hf hk
    obtain ⟨i, hi1, hi2⟩ := hk
    have hs := run_sizeOf (P := P) (t := z.type) (n := k + 1) (by rw [hi1]; simp [hi2]) w
    simp [Instr.fieldAt, Instr.sureAddr, run_underlying hu, hq, fieldPlace, hs, hf, Addr.add_mid]
theorem a_fieldAddr {x : Operand} {s : TypeId} {f : Nat} {fs : Array Field} {off k : Nat} {o p : Nat} (hu : P.underlying s = some (.struct fs)) (hf : (fs[f]?).map (·.offset) = some off)
    (hk : ((fs[f]?).bind fun x => (P.info? x.type).map (·.size)) = some (k + 1)) {q : Nat} (hq : p + off = q) : AOp P ⟨d, .fieldAddr s x f, ty, pos, af, g⟩ [.ref o p] [] [] (.ref o q) :=
  aop_pure fun S m w ev hr => by
    have h := repL1 (u := ev x) hr
    simp only [Rep] at h
    obtain ⟨b, v0, h1, h2, h3⟩ := h
    refine ⟨.pointer (some ⟨b, q, none⟩), ?_, by simp only [Rep]; exact ⟨b, v0, h1, h2, rfl⟩⟩
    simp [execOp, h3, run_fieldAt hu hf hk, hq]
theorem a_fieldAddrP {x : Operand} {s : TypeId} {f : Nat} {fs : Array Field} {off k : Nat} {cs ds : List PV} (hu : P.underlying s = some (.struct fs)) (hf : (fs[f]?).map (·.offset) = some off)
    (hk : ((fs[f]?).bind fun x => (P.info? x.type).map (·.size)) = some (k + 1)) (hd : cs.drop off = ds) : AOp P ⟨d, .fieldAddr s x f, ty, pos, af, g⟩ [.ptr cs] [] [] (.ptr ds) :=
  aop_pure fun S m w ev hr => by
    have h := repL1 (u := ev x) hr
    simp only [Rep] at h
    obtain ⟨b, o, vs, h1, h2, h3, h4⟩ := h
    refine ⟨.pointer (some ⟨b, o + off, none⟩), by simp [execOp, h1, run_fieldAt hu hf hk], ?_⟩
    simp only [Rep]
    refine ⟨b, o + off, vs.drop off, rfl, h2, hd ▸ h3.drop off, fun j v hj => ?_⟩
    rw [List.getElem?_drop] at hj
    rw [Nat.add_assoc]
    exact h4 _ v hj
theorem run_indexAt {t e : TypeId} {k : Nat} {kk : IntKind} (hu : P.underlying t = some (.slice e)) (hi : (P.info? e).map (·.size) = some k) {w : World} {b o n cap : Nat} {i : Int} (h0 : 0 ≤ i) (h1 : i < n) :
    (Instr.indexAt t (.slice (some ⟨b, o, none⟩) n cap) (.int kk i)).run P w = .ok (.pointer (some ⟨b, o + i.toNat * k, none⟩)) w := by
  simp [Instr.indexAt, asIntOf, run_underlying hu, h0, h1, run_sizeOf hi, Addr.add_mid]
/-- an element of a slice that nobody writes to -/
theorem a_indexAddrS {x y : Operand} {t e : TypeId} {k : Nat} {kk : IntKind} {i : Int} {n : Nat} {cs ds : List PV} (hu : P.underlying t = some (.slice e)) (hi : (P.info? e).map (·.size) = some k) (h0 : 0 ≤ i) (h1 : i < n)
    (hd : cs.drop (i.toNat * k) = ds) : AOp P ⟨d, .indexAddr t x y, ty, pos, af, g⟩ [.p (.sl n k cs), .p (.v (.int kk i))] [] [] (.ptr ds) :=
  aop_pure fun S m w ev hr => by
    obtain ⟨hx, hy⟩ := repL2 (u := ev x) (v := ev y) hr
    simp only [Rep, PRep] at hx
    obtain ⟨a, cap, vs, h2, h3, h4, h5, h6⟩ := hx
    rcases h6 with h6 | ⟨b, off, rfl, h7, h8⟩
    · omega
    refine ⟨.pointer (some ⟨b, off + i.toNat * k, none⟩), by simp [execOp, h2, rep_v hy, run_indexAt hu hi h0 h1], ?_⟩
    simp only [Rep]
    refine ⟨b, off + i.toNat * k, vs.drop (i.toNat * k), rfl, h7, hd ▸ h5.drop _, fun j v hj => ?_⟩
    rw [List.getElem?_drop] at hj
    rw [Nat.add_assoc]
    exact h8 _ v hj
theorem a_indexAddrR {x y : Operand} {t e e' : TypeId} {k : Nat} {kk : IntKind} {i : Int} {o n size : Nat} {cs : List PV} (hu : P.underlying t = some (.slice e)) (hi : (P.info? e).map (·.size) = some k) (h0 : 0 ≤ i) (h1 : i < n) {q : Nat} (hq : i.toNat * k = q) :
    AOp P ⟨d, .indexAddr t x y, ty, pos, af, g⟩ [.row o, .p (.v (.int kk i))] [(o, .live (.row e' size n cs))] [] (.ref o q) :=
  aop_read fun w0 A S m heap w ev hm hR hrd => by
    obtain ⟨hx, hy⟩ := repL2 (u := ev x) (v := ev y) hR
    simp only [Rep] at hx
    obtain ⟨hx, _⟩ := hx
    obtain ⟨v, k1, k2, _⟩ := hm.live o _ (rd1 hrd)
    rw [hx] at k1
    obtain ⟨us, j1, j2, j3⟩ := k2
    rcases j3 with ⟨rfl, h⟩ | ⟨b, cap, cur, fz, rfl, _⟩
    · omega
    have e1 : ev x = .slice (some ⟨b, 0, none⟩) n cap := Option.some.inj k1
    refine ⟨.pointer (some ⟨b, q, none⟩), by simp [execOp, e1, rep_v hy, run_indexAt hu hi h0 h1, hq], ?_⟩
    simp only [Rep]
    exact ⟨b, _, hx, by rw [e1]; rfl, rfl⟩
theorem a_indexAddrV {x y : Operand} {t e : TypeId} {k : Nat} {kk : IntKind} {i : Int} {o n off size : Nat} (hu : P.underlying t = some (.slice e)) (hi : (P.info? e).map (·.size) = some k) (h0 : 0 ≤ i) (h1 : i < n) {q : Nat} (hq : off + i.toNat * k = q) :
    AOp P ⟨d, .indexAddr t x y, ty, pos, af, g⟩ [.psl o off n size, .p (.v (.int kk i))] [] [] (.ref o q) :=
  aop_pure fun S m w ev hr => by
    obtain ⟨hx, hy⟩ := repL2 (u := ev x) (v := ev y) hr
    simp only [Rep] at hx
    obtain ⟨a, cap, h2, h3, h4⟩ := hx
    rcases h4 with h4 | ⟨b, v0, h5, h6, rfl⟩
    · omega
    refine ⟨.pointer (some ⟨b, q, none⟩), by simp [execOp, h2, rep_v hy, run_indexAt hu hi h0 h1, hq], ?_⟩
    simp only [Rep]
    exact ⟨b, v0, h5, h6, rfl⟩
theorem run_indexAtA {t e : TypeId} {k len : Nat} {kk : IntKind} (hu : P.underlying t = some (.array len e)) (hi : (P.info? e).map (·.size) = some k) {w : World} {b o : Nat} {i : Int} (h0 : 0 ≤ i) (h1 : i < len) :
    (Instr.indexAt t (.pointer (some ⟨b, o, none⟩)) (.int kk i)).run P w = .ok (.pointer (some ⟨b, o + i.toNat * k, none⟩)) w := by
  simp [Instr.indexAt, Instr.sureAddr, asIntOf, run_underlying hu, h0, h1, run_sizeOf hi, Addr.add_mid]
theorem a_indexAddrA {x y : Operand} {t e : TypeId} {k len : Nat} {kk : IntKind} {i : Int} {o p : Nat} (hu : P.underlying t = some (.array len e)) (hi : (P.info? e).map (·.size) = some k) (h0 : 0 ≤ i) (h1 : i < len) {q : Nat} (hq : p + i.toNat * k = q) :
    AOp P ⟨d, .indexAddr t x y, ty, pos, af, g⟩ [.ref o p, .p (.v (.int kk i))] [] [] (.ref o q) :=
  aop_pure fun S m w ev hr => by
    obtain ⟨hx, hy⟩ := repL2 (u := ev x) (v := ev y) hr
    simp only [Rep] at hx
    obtain ⟨b, v0, h2, h3, h4⟩ := hx
    refine ⟨.pointer (some ⟨b, q, none⟩), by simp [execOp, h4, rep_v hy, run_indexAtA hu hi h0 h1, hq], ?_⟩
    simp only [Rep]
    exact ⟨b, v0, h2, h3, rfl⟩
/-! an element of an array that is a value -/
theorem a_index1 {x y : Operand} {t e : TypeId} {ds : TypeDesc} {k len : Nat} {kk : IntKind} {i : Int} {cs : List AV} {r : AV} (hu : P.underlying t = some (.array len e)) (hi : (P.info? e).map (·.size) = some k) (ht : P.underlying e = some ds) (hd : ds.isRow = false)
    (h0 : 0 ≤ i) (h1 : i < len) (h : cs[i.toNat * k]? = some r) : AOp P ⟨d, .index t x y, ty, pos, af, g⟩ [.agg cs, .p (.v (.int kk i))] [] [] r :=
  aop_pure fun S m w ev hr => by
    obtain ⟨hx, hy⟩ := repL2 (u := ev x) (v := ev y) hr
    simp only [Rep] at hx
    obtain ⟨us, h2, h3, h4⟩ := hx
    obtain ⟨u, h5, h6⟩ := h3.at_ h
    exact ⟨u, by simp [execOp, h2, rep_v hy, Instr.index, asIntOf, run_underlying hu, h0, h1, run_sizeOf hi, part1 ht hd h5], h6⟩
theorem a_indexN {x y : Operand} {t e : TypeId} {ds : TypeDesc} {k len : Nat} {kk : IntKind} {i : Int} {cs es : List AV} (hu : P.underlying t = some (.array len e)) (hi : (P.info? e).map (·.size) = some k) (ht : P.underlying e = some ds) (hd : ds.isRow = true)
    (h0 : 0 ≤ i) (h1 : i < len) (h : (cs.drop (i.toNat * k)).take k = es) : AOp P ⟨d, .index t x y, ty, pos, af, g⟩ [.agg cs, .p (.v (.int kk i))] [] [] (.agg es) :=
  aop_pure fun S m w ev hr => by
    obtain ⟨hx, hy⟩ := repL2 (u := ev x) (v := ev y) hr
    simp only [Rep] at hx
    obtain ⟨us, h2, h3, h4⟩ := hx
    refine ⟨.agg ((us.drop (i.toNat * k)).take k).toArray, by simp [execOp, h2, rep_v hy, Instr.index, asIntOf, run_underlying hu, h0, h1, run_sizeOf hi, partN ht hd hi], ?_⟩
    simp only [Rep]
    exact ⟨_, rfl, h ▸ (h3.drop _).take _, all_sub h4⟩
/-- a byte of a string -/
theorem a_indexStr {x y : Operand} {t : TypeId} {kk : IntKind} {i : Int} {s : ByteArray} {c : Int} (hu : P.underlying t = some .string) (h0 : 0 ≤ i) (h : (s.data.toList[i.toNat]?).map (fun b : UInt8 => ((b.toNat : Nat) : Int)) = some c) :
    AOp P ⟨d, .index t x y, ty, pos, af, g⟩ [.p (.v (.string s)), .p (.v (.int kk i))] [] [] (.p (.v (.int .u8 c))) :=
  aop_pure fun S m w ev hr => by
    obtain ⟨hx, hy⟩ := repL2 (u := ev x) (v := ev y) hr
    refine ⟨.int .u8 c, ?_, rep_mk rfl⟩
    cases hq : s.data.toList[i.toNat]? with
    | none => simp [hq] at h
    | some b =>
      have hb : s[i.toNat]? = some b := by
        have hlt : i.toNat < s.size := by
          have := (List.getElem?_eq_some_iff.1 hq).1
          simpa using this
        have e : s[i.toNat] = b := by
          have := (List.getElem?_eq_some_iff.1 hq).2
          rw [← this]
          rfl
        rw [← e]
        exact getElem?_pos s i.toNat hlt
      simp [hq] at h
      simp [execOp, rep_v hx, rep_v hy, Instr.index, asIntOf, run_underlying hu, h0, hb, h]
/-! lengths -/
theorem a_lenStr {x : Operand} {t : TypeId} {s : ByteArray} (hu : P.underlying t = some .string) :
    AOp P ⟨d, .call { callee := .builtin .len, args := #[x], argTypes := #[t] }, ty, pos, af, g⟩ [.p (.v (.string s))] [] [] (.p (.v (.int .i64 s.size))) :=
  aop_pure fun S m w ev hr => by
    have hx := rep_v (repL1 (x := .p (.v (.string s))) (u := ev x) hr)
    exact ⟨.int .i64 s.size, by simp [execOp, resolve, invoke, builtin, Builtin.len_, hx, run_underlying hu, goInt], rep_mk rfl⟩
theorem run_len {x : Operand} {t e : TypeId} (hu : P.underlying t = some (.slice e)) {ev : Operand → Value} {a : Option Addr} {n c : Nat} (hx : ev x = .slice a n c) (w : World) :
    (execOp ev ⟨d, .call { callee := .builtin .len, args := #[x], argTypes := #[t] }, ty, pos, af, g⟩).run P w = .ok (.value (.int .i64 n)) w := by
  simp [execOp, resolve, invoke, builtin, Builtin.len_, hx, run_underlying hu, goInt]
theorem a_lenS {x : Operand} {t e : TypeId} {n k : Nat} {cs : List PV} (hu : P.underlying t = some (.slice e)) :
    AOp P ⟨d, .call { callee := .builtin .len, args := #[x], argTypes := #[t] }, ty, pos, af, g⟩ [.p (.sl n k cs)] [] [] (.p (.v (.int .i64 n))) :=
  aop_pure fun S m w ev hr => by
    have hx := repL1 (u := ev x) hr
    simp only [Rep, PRep] at hx
    obtain ⟨a, cap, vs, h2, _⟩ := hx
    exact ⟨_, run_len hu h2 w, rep_mk rfl⟩
theorem a_lenNil {x : Operand} {t e : TypeId} {a : Option Addr} {n c : Nat} (hu : P.underlying t = some (.slice e)) :
    AOp P ⟨d, .call { callee := .builtin .len, args := #[x], argTypes := #[t] }, ty, pos, af, g⟩ [.p (.v (.slice a n c))] [] [] (.p (.v (.int .i64 n))) :=
  aop_pure fun S m w ev hr => ⟨_, run_len hu (rep_v (repL1 (u := ev x) hr)) w, rep_mk rfl⟩
theorem a_lenV {x : Operand} {t e : TypeId} {o off n size : Nat} (hu : P.underlying t = some (.slice e)) :
    AOp P ⟨d, .call { callee := .builtin .len, args := #[x], argTypes := #[t] }, ty, pos, af, g⟩ [.psl o off n size] [] [] (.p (.v (.int .i64 n))) :=
  aop_pure fun S m w ev hr => by
    have hx := repL1 (u := ev x) hr
    simp only [Rep] at hx
    obtain ⟨a, cap, h2, _⟩ := hx
    exact ⟨_, run_len hu h2 w, rep_mk rfl⟩
theorem a_lenR {x : Operand} {t e e' : TypeId} {o n size : Nat} {cs : List PV} (hu : P.underlying t = some (.slice e)) :
    AOp P ⟨d, .call { callee := .builtin .len, args := #[x], argTypes := #[t] }, ty, pos, af, g⟩ [.row o] [(o, .live (.row e' size n cs))] [] (.p (.v (.int .i64 n))) :=
  aop_read fun w0 A S m heap w ev hm hR hrd => by
    have hx := repL1 (u := ev x) hR
    simp only [Rep] at hx
    obtain ⟨hx, _⟩ := hx
    obtain ⟨v, k1, k2, _⟩ := hm.live o _ (rd1 hrd)
    rw [hx] at k1
    obtain ⟨us, j1, j2, j3⟩ := k2
    rcases j3 with ⟨rfl, rfl⟩ | ⟨b, cap, cur, fz, rfl, _⟩
    · exact ⟨_, run_len hu (Option.some.inj k1) w, rep_mk rfl⟩
    · exact ⟨_, run_len hu (Option.some.inj k1) w, rep_mk rfl⟩
end
end Go.Proofs.Ytgbgpidimipfjaa
