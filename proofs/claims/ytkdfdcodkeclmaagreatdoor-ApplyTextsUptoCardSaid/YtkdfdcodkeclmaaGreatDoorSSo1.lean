/- The reference's sortedPeers and sortedNets, ConfCopy, over data. -/
import Derived.Test.YtkdfdcodkeclmaaGreatDoorSCf5
import Derived.Test.YtkdfdcodkeclmaaGreatDoorSCf3
import Derived.Test.YtkdfdcodkeclmaaGreatDoorSNb
namespace Go.Proofs.YtkdfdcodkeclmaaGreatDoor
open Go.RowKit Go.Sort
set_option linter.unusedVariables false
set_option linter.unusedSimpArgs false
set_option maxRecDepth 100000
section
variable {P : Program} {d : Option Tmp} {ty : TypeId} {pos : String} {af : Array Edge} {g : Option (Nat × Bool)}
theorem a_sgtrV {xt yt : TypeId} {x y : Operand} {s t : ByteArray} {c : Bool} (h : (!(sLt s t || decide (s = t))) = c) : AOp P ⟨d, .binOp .gtr xt x y yt, ty, pos, af, g⟩ [.p (.v (.string s)), .p (.v (.string t))] [] [] (.p (.v (.bool c))) := by
 subst h
 exact a_sgtr
end
def bk {α : Type} (g : α → Bool) (l : List α) : Nat → Nat
 | 0 => 0
 | k + 1 => match l[k]? with
  | some x => if g x then bk g l k else k + 1
  | none => k + 1
theorem bk_le {α : Type} (g : α → Bool) (l : List α) : ∀ k, bk g l k ≤ k
 | 0 => Nat.le_refl _
 | k + 1 => by
  have := bk_le g l k
  unfold bk
  split
  ·split <;> omega
  ·omega
theorem bk_yes {α : Type} {g : α → Bool} {l : List α} {k : Nat} {x : α} (h : l[k]? = some x) (hg : g x = true) : bk g l (k + 1) = bk g l k := by
 show (match l[k]? with | some x => if g x then bk g l k else k + 1 | none => k + 1) = _
 rw [h]; simp [hg]
theorem bk_no {α : Type} {g : α → Bool} {l : List α} {k : Nat} {x : α} (h : l[k]? = some x) (hg : g x = false) : bk g l (k + 1) = k + 1 := by
 show (match l[k]? with | some x => if g x then bk g l k else k + 1 | none => k + 1) = _
 rw [h]; simp [hg]
def insE {α : Type} (gt : α → α → Bool) (out : List α) (p : α) : List α := out.take (bk (fun x => gt x p) out out.length) ++ p :: out.drop (bk (fun x => gt x p) out out.length)
def zb6 {α : Type} (gt : α → α → Bool) (l : List α) : List α := l.foldl (insE gt) []
theorem insE_len {α : Type} (gt : α → α → Bool) (out : List α) (p : α) : (insE gt out p).length = out.length + 1 := by
 have := bk_le (fun x => gt x p) out out.length
 unfold insE
 rw [List.length_append, List.length_cons, List.length_take, List.length_drop]
 omega
theorem zeE {α : Type} (gt : α → α → Bool) (l : List α) (i : Nat) (x : α) (h : l[i]? = some x) : zb6 gt (l.take (i + 1)) = insE gt (zb6 gt (l.take i)) x := by
 obtain ⟨h1, h2⟩ := List.getElem?_eq_some_iff.1 h
 unfold zb6
 rw [List.take_succ_eq_append_getElem h1, h2, List.foldl_append]
 rfl
theorem foldE_len {α : Type} (gt : α → α → Bool) : ∀ (l out : List α), (l.foldl (insE gt) out).length = out.length + l.length
 | [], out => rfl
 | x :: l, out => by rw [List.foldl_cons, foldE_len gt l, insE_len, List.length_cons]; omega
theorem zfx {α : Type} (gt : α → α → Bool) (l : List α) : (zb6 gt l).length = l.length := by
 unfold zb6
 rw [foldE_len]
 simp
def gtP (p q : PE) : Bool := !(sLt p.key q.key || decide (p.key = q.key))
def gtN (m n : NtP) : Bool := decide (0 < zbj m.1 m.2 n.1 n.2)
set_option maxHeartbeats 8000000 in
theorem sortedP_s (l : List PE) (hn : l.length ≤ 1048576) : Fn Tryz.prog 28 [.p (.sl l.length 5 (l.flatMap PE.pv))] (.row 0) [(0, .row 60 5 l.length ((zb6 gtP l).flatMap PE.pv))] := by
 refine fnI fun w0 A => ?_
 refine G [12] ?_
 refine zaa (zaL U22) rfl rfl ?_
 refine G [3] ?_
 refine zaM (zb8 3 100 60 5 rfl rfl) ?_
 refine zal (fun m st => ∃ i : Nat, m + i = l.length ∧ st = St.of [(3, .row 100), (8, .p (.sl l.length 5 (l.flatMap PE.pv))), (9, .p (.v (.int .i64 l.length))), (10, .p (.v (.int .i64 i)))] [(100, .row 60 5 i ((zb6 gtP (l.take i)).flatMap PE.pv))]) l.length ?_ ?_
 ·refine ⟨_, zak id _ _ ?_ ?_ rfl, 0, by omega, rfl⟩
  ·(repeat (first | exact trivial | (refine ⟨⟨(by first | rfl | (simp; done) | (simp; omega)), rfl⟩, ?_⟩)))
  ·exact ⟨⟨rfl, rfl⟩, trivial⟩
 rintro m st ⟨i, hi, rfl⟩
 refine G [5] ?_
 refine zab _ rfl (fun h => ?_) (fun h => ?_)
 ·have hlt : i < l.length := by simp at h; omega
  clear h
  obtain ⟨p, hp⟩ : ∃ p, l[i]? = some p := ⟨l[i], List.getElem?_eq_getElem hlt⟩
  have hch := zav (f := PE.pv) (k := 5) (fun _ => rfl) hp
  have hle := zau (f := PE.pv) (k := 5) (fun _ => rfl) hlt
  have hnext := zeE gtP l i p hp
  have hol : (zb6 gtP (l.take i)).length = i := by rw [zfx, List.length_take]; omega
  generalize zb6 gtP (l.take i) = out at *
  have hcl : (out.flatMap PE.pv).length = i * 5 := by rw [zat (f := PE.pv) (k := 5) (fun _ => rfl), hol]
  have hbl0 := bk_le (fun x => gtP x p) out out.length
  have hbl := hbl0
  rw [hol] at hbl
  have hins : (insE gtP out p).flatMap PE.pv = (out.flatMap PE.pv).take (bk (fun x => gtP x p) out out.length * 5) ++ PE.pv p ++ (out.flatMap PE.pv).drop (bk (fun x => gtP x p) out out.length * 5) := by
   unfold insE
   have h1 : ((out.take (bk (fun x => gtP x p) out out.length)).flatMap PE.pv).length = bk (fun x => gtP x p) out out.length * 5 := by rw [zat (f := PE.pv) (k := 5) (fun _ => rfl), List.length_take]; congr 1; omega
   have h2 : out.flatMap PE.pv = (out.take (bk (fun x => gtP x p) out out.length)).flatMap PE.pv ++ (out.drop (bk (fun x => gtP x p) out out.length)).flatMap PE.pv := by rw [← List.flatMap_append, List.take_append_drop]
   rw [h2, ← h1, List.take_left, List.drop_left]
   simp [List.flatMap_append]
  rw [hol] at hins
  have hx : ∀ k, (hk : k < i) → ((out.flatMap PE.pv).drop (k * 5)).take 5 = PE.pv (out[k]'(by omega)) := fun k hk => zav (f := PE.pv) (k := 5) (fun _ => rfl) (List.getElem?_eq_getElem (by omega))
  obtain ⟨pk, sh, ep, al, nn⟩ := p
  generalize hL : l.flatMap PE.pv = L at *
  refine G [5] ?_
  refine zaa (zad U22 sz60 (by omega) (by omega) rfl) rfl rfl ?_
  refine zaa (zaq U60 rfl sz60 (by first | omega | (simp; done) | (simp; omega)) (hch)) rfl rfl ?_
  refine zac (zaV 5 zr60 rfl) rfl rfl ⟨rfl, trivial⟩ ?_
  refine zac (zap (Y := .agg [.p (.v (.string pk)), .p (.v (.string sh)), .p (.v (.string ep)), .p (.v (.int .i64 al)), .p (.sl nn.length 2 (nn.flatMap ntC))]) sz60 rfl rfl (Nat.eq_of_beq_eq_true rfl)) rfl rfl ⟨rfl, trivial⟩ ?_
  refine G [4] ?_
  refine zac (zaG U22) rfl rfl ⟨rfl, trivial⟩ ?_
  refine G [4] ?_
  refine awp_joinB (St.of [(3, .row 100), (5, .ref 5 0), (6, .p (.v (.int .i64 (bk (fun x => gtP x ⟨pk, sh, ep, al, nn⟩) out i : Nat)))), (8, .p (.sl l.length 5 L)), (9, .p (.v (.int .i64 l.length))), (10, .p (.v (.int .i64 i)))] [(100, .row 60 5 i (out.flatMap PE.pv)), (5, .box 60 [.p (.v (.string pk)), .p (.v (.string sh)), .p (.v (.string ep)), .p (.v (.int .i64 al)), .p (.sl nn.length 2 (nn.flatMap ntC))])]) ?_ ?_
  ·refine zal (fun m2 st => m2 ≤ i ∧ bk (fun x => gtP x ⟨pk, sh, ep, al, nn⟩) out m2 = bk (fun x => gtP x ⟨pk, sh, ep, al, nn⟩) out i ∧ st = St.of [(3, .row 100), (5, .ref 5 0), (6, .p (.v (.int .i64 m2))), (8, .p (.sl l.length 5 L)), (9, .p (.v (.int .i64 l.length))), (10, .p (.v (.int .i64 i)))] [(100, .row 60 5 i (out.flatMap PE.pv)), (5, .box 60 [.p (.v (.string pk)), .p (.v (.string sh)), .p (.v (.string ep)), .p (.v (.int .i64 al)), .p (.sl nn.length 2 (nn.flatMap ntC))])]) i ?_ ?_
   ·refine ⟨_, zak id _ _ ?_ ?_ rfl, Nat.le_refl _, rfl, rfl⟩
    ·(repeat (first | exact trivial | (refine ⟨⟨(by first | rfl | (simp; done) | (simp; omega)), rfl⟩, ?_⟩)))
    ·exact ⟨⟨rfl, rfl⟩, ⟨rfl, rfl⟩, trivial⟩
   rintro m2 st ⟨hm2, hbk, rfl⟩
   cases m2 with
   | zero =>
    have h0 : bk (fun x => gtP x ⟨pk, sh, ep, al, nn⟩) out i = 0 := hbk.symm
    rw [h0]
    refine G [4] ?_
    refine zaa (zbk (c := false) (by simp)) rfl rfl ?_
    refine G [14, 9, 0] ?_
    exact zak id _ _ (by repeat (first | exact trivial | refine ⟨⟨rfl, rfl⟩, ?_⟩)) (by repeat (first | exact trivial | refine ⟨⟨rfl, rfl⟩, ?_⟩)) rfl
   | succ k =>
    have hk2 := hx k (by omega)
    have hat : out[k]? = some (out[k]'(by omega)) := List.getElem?_eq_getElem (by omega)
    have hcle := zau (f := PE.pv) (k := 5) (fun _ => rfl) (l := out) (i := k) (by omega)
    have hk : (out.flatMap PE.pv)[k * 5 + 0]? = some (.v (.string (out[k]'(by omega)).key)) := by
     have := congrArg (fun x => x[0]?) hk2
     rw [List.getElem?_take, List.getElem?_drop] at this
     simpa [PE.pv] using this
    generalize hxx : (out[k]'(by omega)) = x at *
    rcases hg : gtP x ⟨pk, sh, ep, al, nn⟩ with _ | _
    ·have hb2 := bk_no (g := fun x => gtP x ⟨pk, sh, ep, al, nn⟩) hat hg
     rw [hbk] at hb2
     rw [hb2]
     refine G [4] ?_
     refine zaa (zbk (c := true) (by first | (simp; done) | (simp; omega))) rfl rfl ?_
     refine G [3] ?_
     refine zaa (zdZ (show IntKind.i64.wrap (((k + 1 : Nat) : Int) - 1) = ((k : Nat) : Int) by rw [IntWalk.i64_in _ (by omega)]; omega)) rfl rfl ?_
     refine zac (zai U22 sz60 (by omega) (by omega) (by first | (simp only [Int.toNat_natCast, Nat.mul_one, Nat.zero_add]; rfl) | rfl)) rfl rfl ⟨rfl, trivial⟩ ?_
     refine fA zfU rfl rfl ?_
     refine zac (zaT U9 rfl hk) rfl rfl ⟨rfl, trivial⟩ ?_
     refine G [2] ?_
     refine zaa (a_sgtrV (c := false) hg) rfl rfl ?_
     refine G [4, 9, 0] ?_
     exact zak id _ _ (by repeat (first | exact trivial | refine ⟨⟨rfl, rfl⟩, ?_⟩)) (by repeat (first | exact trivial | refine ⟨⟨rfl, rfl⟩, ?_⟩)) rfl
    ·have hb2 := bk_yes (g := fun x => gtP x ⟨pk, sh, ep, al, nn⟩) hat hg
     refine G [4] ?_
     refine zaa (zbk (c := true) (by first | (simp; done) | (simp; omega))) rfl rfl ?_
     refine G [3] ?_
     refine zaa (zdZ (show IntKind.i64.wrap (((k + 1 : Nat) : Int) - 1) = ((k : Nat) : Int) by rw [IntWalk.i64_in _ (by omega)]; omega)) rfl rfl ?_
     refine zac (zai U22 sz60 (by omega) (by omega) (by first | (simp only [Int.toNat_natCast, Nat.mul_one, Nat.zero_add]; rfl) | rfl)) rfl rfl ⟨rfl, trivial⟩ ?_
     refine fA zfU rfl rfl ?_
     refine zac (zaT U9 rfl hk) rfl rfl ⟨rfl, trivial⟩ ?_
     refine G [2] ?_
     refine zaa (a_sgtrV (c := true) hg) rfl rfl ?_
     refine G [7] ?_
     refine zaa (zdZ (show IntKind.i64.wrap (((k + 1 : Nat) : Int) - 1) = ((k : Nat) : Int) by rw [IntWalk.i64_in _ (by omega)]; omega)) rfl rfl ?_
     refine G [2, 9, 0] ?_
     refine ⟨k, by omega, _, zak id _ _ ?_ ?_ rfl, by omega, by rw [← hb2]; exact hbk, rfl⟩
     ·(repeat (first | exact trivial | (refine ⟨⟨(by first | rfl | (simp; done) | (simp; omega)), rfl⟩, ?_⟩)))
     ·exact ⟨⟨rfl, rfl⟩, ⟨rfl, rfl⟩, trivial⟩
  clear hx
  generalize bk (fun x => gtP x ⟨pk, sh, ep, al, nn⟩) out i = k at *
  generalize out.flatMap PE.pv = O at *
  change _ = O.take (k * 5) ++ [.v (.string pk), .v (.string sh), .v (.string ep), .v (.int .i64 al), .sl nn.length 2 (nn.flatMap ntC)] ++ O.drop (k * 5) at hins
  have ht1 : (O.take (k * 5)).length = k * 5 := by rw [List.length_take]; omega
  have hdr : (O.drop (k * 5)).take ((i - k) * 5) = O.drop (k * 5) := List.take_of_length_le (by rw [List.length_drop, hcl, ← Nat.sub_mul]; exact Nat.le_refl _)
  obtain ⟨O2, hO2⟩ : ∃ O2, (insE gtP out ⟨pk, sh, ep, al, nn⟩).flatMap PE.pv = O2 := ⟨_, rfl⟩
  rw [hO2] at hins
  refine G [2] ?_
  refine zac (zbX 31 U22 sz60) rfl rfl ⟨rfl, trivial⟩ ?_
  refine G [2] ?_
  refine zac (zcE (L := none) (H := (some (_, _))) U22 sz60 rfl ⟨by omega, rfl⟩ (by omega) (by omega) (show Int.toNat (k : Int) - 0 = k by omega) rfl) rfl rfl ⟨rfl, trivial⟩ ?_
  refine zac (zaF 35 U22 eo60 (zeC (by omega) rfl) (by simp only [maxLen]; omega) (by omega) (show 0 + k = k by omega) (show [] ++ (O.drop (0 * 5)).take (k * 5) = O.take (k * 5) by simp)) rfl rfl ⟨rfl, rfl, rfl, trivial⟩ ?_
  refine G [6] ?_
  refine zac (zan 38 U22 sz60 zc60 (Nat.le_of_ble_eq_true rfl) (Nat.le_of_ble_eq_true rfl) rfl rfl rfl rfl (Nat.le_of_ble_eq_true rfl)) rfl rfl ⟨rfl, trivial⟩ ?_
  refine zac (zaF 39 U22 eo60 (zbl) (by simp only [maxLen]; omega) (by omega) rfl rfl) rfl rfl ⟨rfl, rfl, rfl, trivial⟩ ?_
  refine G [6] ?_
  refine zac (zcE (L := (some (_, _))) (H := none) U22 sz60 ⟨by omega, rfl⟩ rfl (by omega) (by omega) (show i - Int.toNat (k : Int) = i - k by omega) (show Int.toNat (k : Int) * 5 = k * 5 by rw [Int.toNat_natCast])) rfl rfl ⟨rfl, trivial⟩ ?_
  refine zac (zaF 44 U22 eo60 (zeC (by omega) rfl) (by simp only [maxLen]; omega) (by omega) (show k + 1 + (i - k) = i + 1 by omega) (show (O.take (k * 5) ++ [.v (.string pk), .v (.string sh), .v (.string ep), .v (.int .i64 al), .sl nn.length 2 (nn.flatMap ntC)]) ++ (O.drop (k * 5)).take ((i - k) * 5) = O2 by rw [hdr]; exact hins.symm)) rfl rfl ⟨rfl, rfl, rfl, trivial⟩ ?_
  refine G [3] ?_
  refine zaa (zas (by first | exact IntWalk.i64_in _ (by omega) | rfl)) rfl rfl ?_
  refine G [2, 9, 0] ?_
  refine ⟨m - 1, by omega, _, zak (fun o => bif Nat.beq o 100 then 44 else o) [(3, .row 100), (8, .p (.sl l.length 5 L)), (9, .p (.v (.int .i64 l.length))), (10, .p (.v (.int .i64 (i + 1 : Nat))))] [(100, .row 60 5 (i + 1) O2)] ?_ ?_ rfl, i + 1, by omega, by rw [hnext, hO2]⟩
  ·(repeat (first | exact trivial | (refine ⟨⟨(by first | rfl | (simp; done) | (simp; omega)), rfl⟩, ?_⟩)))
  ·exact ⟨⟨rfl, rfl⟩, trivial⟩
 have hge : i = l.length := by simp at h; omega
 clear h
 subst hge
 rw [List.take_length]
 refine G [7, 9, 0] ?_
 refine yT (fun _ => 100) ?_ ?_
 ·exact rfl
 ·exact ⟨⟨rfl, rfl⟩, trivial⟩
set_option maxHeartbeats 8000000 in
theorem sortedN_s (l : List NtP) (hn : l.length ≤ 1048576) : Fn Tryz.prog 29 [.p (.sl l.length 2 (l.flatMap ntC))] (.row 0) [(0, .row 27 2 l.length ((zb6 gtN l).flatMap ntC))] := by
 refine fnI fun w0 A => ?_
 refine G [12] ?_
 refine zaa (zaL U58) rfl rfl ?_
 refine G [3] ?_
 refine zaM (zb8 3 100 27 2 rfl rfl) ?_
 refine zal (fun m st => ∃ i : Nat, m + i = l.length ∧ st = St.of [(3, .row 100), (8, .p (.sl l.length 2 (l.flatMap ntC))), (9, .p (.v (.int .i64 l.length))), (10, .p (.v (.int .i64 i)))] [(100, .row 27 2 i ((zb6 gtN (l.take i)).flatMap ntC))]) l.length ?_ ?_
 ·refine ⟨_, zak id _ _ ?_ ?_ rfl, 0, by omega, rfl⟩
  ·(repeat (first | exact trivial | (refine ⟨⟨(by first | rfl | (simp; done) | (simp; omega)), rfl⟩, ?_⟩)))
  ·exact ⟨⟨rfl, rfl⟩, trivial⟩
 rintro m st ⟨i, hi, rfl⟩
 refine G [5] ?_
 refine zab _ rfl (fun h => ?_) (fun h => ?_)
 ·have hlt : i < l.length := by simp at h; omega
  clear h
  obtain ⟨p, hp⟩ : ∃ p, l[i]? = some p := ⟨l[i], List.getElem?_eq_getElem hlt⟩
  have hch := zav (f := ntC) (k := 2) (fun _ => rfl) hp
  have hle := zau (f := ntC) (k := 2) (fun _ => rfl) hlt
  have hnext := zeE gtN l i p hp
  have hol : (zb6 gtN (l.take i)).length = i := by rw [zfx, List.length_take]; omega
  generalize zb6 gtN (l.take i) = out at *
  have hcl : (out.flatMap ntC).length = i * 2 := by rw [zat (f := ntC) (k := 2) (fun _ => rfl), hol]
  have hbl0 := bk_le (fun x => gtN x p) out out.length
  have hbl := hbl0
  rw [hol] at hbl
  have hins : (insE gtN out p).flatMap ntC = (out.flatMap ntC).take (bk (fun x => gtN x p) out out.length * 2) ++ ntC p ++ (out.flatMap ntC).drop (bk (fun x => gtN x p) out out.length * 2) := by
   unfold insE
   have h1 : ((out.take (bk (fun x => gtN x p) out out.length)).flatMap ntC).length = bk (fun x => gtN x p) out out.length * 2 := by rw [zat (f := ntC) (k := 2) (fun _ => rfl), List.length_take]; congr 1; omega
   have h2 : out.flatMap ntC = (out.take (bk (fun x => gtN x p) out out.length)).flatMap ntC ++ (out.drop (bk (fun x => gtN x p) out out.length)).flatMap ntC := by rw [← List.flatMap_append, List.take_append_drop]
   rw [h2, ← h1, List.take_left, List.drop_left]
   simp [List.flatMap_append]
  rw [hol] at hins
  have hx : ∀ k, (hk : k < i) → ((out.flatMap ntC).drop (k * 2)).take 2 = ntC (out[k]'(by omega)) := fun k hk => zav (f := ntC) (k := 2) (fun _ => rfl) (List.getElem?_eq_getElem (by omega))
  have hOr := fun m : NtP => nOrd_s m.1 m.2 p.1 p.2
  obtain ⟨na, nb⟩ := p
  generalize hL : l.flatMap ntC = L at *
  refine G [5] ?_
  refine zaa (zad U58 sz27 (by omega) (by omega) rfl) rfl rfl ?_
  refine zaa (zaq U27 rfl sz27 (by first | omega | (simp; done) | (simp; omega)) (hch)) rfl rfl ?_
  refine zac (zaV 5 zr27 rfl) rfl rfl ⟨rfl, trivial⟩ ?_
  refine zac (zap (Y := .agg [.p (.v (.int .u32 na)), .p (.v (.int .i64 nb))]) sz27 rfl rfl (Nat.eq_of_beq_eq_true rfl)) rfl rfl ⟨rfl, trivial⟩ ?_
  refine G [4] ?_
  refine zac (zaG U58) rfl rfl ⟨rfl, trivial⟩ ?_
  refine G [4] ?_
  refine awp_joinB (St.of [(3, .row 100), (5, .ref 5 0), (6, .p (.v (.int .i64 (bk (fun x => gtN x ⟨na, nb⟩) out i : Nat)))), (8, .p (.sl l.length 2 L)), (9, .p (.v (.int .i64 l.length))), (10, .p (.v (.int .i64 i)))] [(100, .row 27 2 i (out.flatMap ntC)), (5, .box 27 [.p (.v (.int .u32 na)), .p (.v (.int .i64 nb))])]) ?_ ?_
  ·refine zal (fun m2 st => m2 ≤ i ∧ bk (fun x => gtN x ⟨na, nb⟩) out m2 = bk (fun x => gtN x ⟨na, nb⟩) out i ∧ st = St.of [(3, .row 100), (5, .ref 5 0), (6, .p (.v (.int .i64 m2))), (8, .p (.sl l.length 2 L)), (9, .p (.v (.int .i64 l.length))), (10, .p (.v (.int .i64 i)))] [(100, .row 27 2 i (out.flatMap ntC)), (5, .box 27 [.p (.v (.int .u32 na)), .p (.v (.int .i64 nb))])]) i ?_ ?_
   ·refine ⟨_, zak id _ _ ?_ ?_ rfl, Nat.le_refl _, rfl, rfl⟩
    ·(repeat (first | exact trivial | (refine ⟨⟨(by first | rfl | (simp; done) | (simp; omega)), rfl⟩, ?_⟩)))
    ·exact ⟨⟨rfl, rfl⟩, ⟨rfl, rfl⟩, trivial⟩
   rintro m2 st ⟨hm2, hbk, rfl⟩
   cases m2 with
   | zero =>
    have h0 : bk (fun x => gtN x ⟨na, nb⟩) out i = 0 := hbk.symm
    rw [h0]
    refine G [4] ?_
    refine zaa (zbk (c := false) (by simp)) rfl rfl ?_
    refine G [13, 9, 0] ?_
    exact zak id _ _ (by repeat (first | exact trivial | refine ⟨⟨rfl, rfl⟩, ?_⟩)) (by repeat (first | exact trivial | refine ⟨⟨rfl, rfl⟩, ?_⟩)) rfl
   | succ k =>
    have hk2 := hx k (by omega)
    have hat : out[k]? = some (out[k]'(by omega)) := List.getElem?_eq_getElem (by omega)
    have hcle := zau (f := ntC) (k := 2) (fun _ => rfl) (l := out) (i := k) (by omega)
    have hk := hk2
    have hO := hOr (out[k]'(by omega))
    generalize hxx : (out[k]'(by omega)) = x at *
    rcases hg : gtN x ⟨na, nb⟩ with _ | _
    ·have hb2 := bk_no (g := fun x => gtN x ⟨na, nb⟩) hat hg
     rw [hbk] at hb2
     rw [hb2]
     refine G [4] ?_
     refine zaa (zbk (c := true) (by first | (simp; done) | (simp; omega))) rfl rfl ?_
     refine G [3] ?_
     refine zaa (zdZ (show IntKind.i64.wrap (((k + 1 : Nat) : Int) - 1) = ((k : Nat) : Int) by rw [IntWalk.i64_in _ (by omega)]; omega)) rfl rfl ?_
     refine zac (zai U58 sz27 (by omega) (by omega) (by first | (simp only [Int.toNat_natCast, Nat.mul_one, Nat.zero_add]; rfl) | rfl)) rfl rfl ⟨rfl, trivial⟩ ?_
     refine zac (zeA U27 rfl sz27 (by omega) (hk)) rfl rfl ⟨rfl, trivial⟩ ?_
     refine lN U27 rfl sz27 rfl rfl ⟨rfl, trivial⟩ ?_
     refine cK hO ?_
     refine zaa (zbk (c := false) (by simpa [gtN] using hg)) rfl rfl ?_
     refine G [4, 9, 0] ?_
     exact zak id _ _ (by repeat (first | exact trivial | refine ⟨⟨rfl, rfl⟩, ?_⟩)) (by repeat (first | exact trivial | refine ⟨⟨rfl, rfl⟩, ?_⟩)) rfl
    ·have hb2 := bk_yes (g := fun x => gtN x ⟨na, nb⟩) hat hg
     refine G [4] ?_
     refine zaa (zbk (c := true) (by first | (simp; done) | (simp; omega))) rfl rfl ?_
     refine G [3] ?_
     refine zaa (zdZ (show IntKind.i64.wrap (((k + 1 : Nat) : Int) - 1) = ((k : Nat) : Int) by rw [IntWalk.i64_in _ (by omega)]; omega)) rfl rfl ?_
     refine zac (zai U58 sz27 (by omega) (by omega) (by first | (simp only [Int.toNat_natCast, Nat.mul_one, Nat.zero_add]; rfl) | rfl)) rfl rfl ⟨rfl, trivial⟩ ?_
     refine zac (zeA U27 rfl sz27 (by omega) (hk)) rfl rfl ⟨rfl, trivial⟩ ?_
     refine lN U27 rfl sz27 rfl rfl ⟨rfl, trivial⟩ ?_
     refine cK hO ?_
     refine zaa (zbk (c := true) (by simpa [gtN] using hg)) rfl rfl ?_
     refine G [7] ?_
     refine zaa (zdZ (show IntKind.i64.wrap (((k + 1 : Nat) : Int) - 1) = ((k : Nat) : Int) by rw [IntWalk.i64_in _ (by omega)]; omega)) rfl rfl ?_
     refine G [2, 9, 0] ?_
     refine ⟨k, by omega, _, zak id _ _ ?_ ?_ rfl, by omega, by rw [← hb2]; exact hbk, rfl⟩
     ·(repeat (first | exact trivial | (refine ⟨⟨(by first | rfl | (simp; done) | (simp; omega)), rfl⟩, ?_⟩)))
     ·exact ⟨⟨rfl, rfl⟩, ⟨rfl, rfl⟩, trivial⟩
  clear hx
  generalize bk (fun x => gtN x ⟨na, nb⟩) out i = k at *
  generalize out.flatMap ntC = O at *
  change _ = O.take (k * 2) ++ [.v (.int .u32 na), .v (.int .i64 nb)] ++ O.drop (k * 2) at hins
  have ht1 : (O.take (k * 2)).length = k * 2 := by rw [List.length_take]; omega
  have hdr : (O.drop (k * 2)).take ((i - k) * 2) = O.drop (k * 2) := List.take_of_length_le (by rw [List.length_drop, hcl, ← Nat.sub_mul]; exact Nat.le_refl _)
  obtain ⟨O2, hO2⟩ : ∃ O2, (insE gtN out ⟨na, nb⟩).flatMap ntC = O2 := ⟨_, rfl⟩
  rw [hO2] at hins
  refine G [2] ?_
  refine zac (zbX 30 U58 sz27) rfl rfl ⟨rfl, trivial⟩ ?_
  refine G [2] ?_
  refine zac (zcE (L := none) (H := (some (_, _))) U58 sz27 rfl ⟨by omega, rfl⟩ (by omega) (by omega) (show Int.toNat (k : Int) - 0 = k by omega) rfl) rfl rfl ⟨rfl, trivial⟩ ?_
  refine zac (zaF 34 U58 eo27 (zeC (by omega) rfl) (by simp only [maxLen]; omega) (by omega) (show 0 + k = k by omega) (show [] ++ (O.drop (0 * 2)).take (k * 2) = O.take (k * 2) by simp)) rfl rfl ⟨rfl, rfl, rfl, trivial⟩ ?_
  refine G [6] ?_
  refine zac (zan 37 U58 sz27 zc27 (Nat.le_of_ble_eq_true rfl) (Nat.le_of_ble_eq_true rfl) rfl rfl rfl rfl (Nat.le_of_ble_eq_true rfl)) rfl rfl ⟨rfl, trivial⟩ ?_
  refine zac (zaF 38 U58 eo27 (zbl) (by simp only [maxLen]; omega) (by omega) rfl rfl) rfl rfl ⟨rfl, rfl, rfl, trivial⟩ ?_
  refine G [6] ?_
  refine zac (zcE (L := (some (_, _))) (H := none) U58 sz27 ⟨by omega, rfl⟩ rfl (by omega) (by omega) (show i - Int.toNat (k : Int) = i - k by omega) (show Int.toNat (k : Int) * 2 = k * 2 by rw [Int.toNat_natCast])) rfl rfl ⟨rfl, trivial⟩ ?_
  refine zac (zaF 43 U58 eo27 (zeC (by omega) rfl) (by simp only [maxLen]; omega) (by omega) (show k + 1 + (i - k) = i + 1 by omega) (show (O.take (k * 2) ++ [.v (.int .u32 na), .v (.int .i64 nb)]) ++ (O.drop (k * 2)).take ((i - k) * 2) = O2 by rw [hdr]; exact hins.symm)) rfl rfl ⟨rfl, rfl, rfl, trivial⟩ ?_
  refine G [3] ?_
  refine zaa (zas (by first | exact IntWalk.i64_in _ (by omega) | rfl)) rfl rfl ?_
  refine G [2, 9, 0] ?_
  refine ⟨m - 1, by omega, _, zak (fun o => bif Nat.beq o 100 then 43 else o) [(3, .row 100), (8, .p (.sl l.length 2 L)), (9, .p (.v (.int .i64 l.length))), (10, .p (.v (.int .i64 (i + 1 : Nat))))] [(100, .row 27 2 (i + 1) O2)] ?_ ?_ rfl, i + 1, by omega, by rw [hnext, hO2]⟩
  ·(repeat (first | exact trivial | (refine ⟨⟨(by first | rfl | (simp; done) | (simp; omega)), rfl⟩, ?_⟩)))
  ·exact ⟨⟨rfl, rfl⟩, trivial⟩
 have hge : i = l.length := by simp at h; omega
 clear h
 subst hge
 rw [List.take_length]
 refine G [7, 9, 0] ?_
 refine yT (fun _ => 100) ?_ ?_
 ·exact rfl
 ·exact ⟨⟨rfl, rfl⟩, trivial⟩
end Go.Proofs.YtkdfdcodkeclmaaGreatDoor
