/- The reference's sortedPeers and sortedNets, ConfCopy, over data. -/
import Derived.Test.YtlfjpippeeikdaaGreatDoorSMo4
set_option linter.all false
namespace Go.Proofs.YtlfjpippeeikdaaGreatDoor
open Go.RowKit Go.Sort
set_option maxHeartbeats 16000000
set_option maxRecDepth 100000
section
variable {P : Program} {d : Option Tmp} {ty : TypeId} {pos : String} {af : Array Edge} {g : Option (Nat × Bool)}
theorem a_sgtrV {xt yt : TypeId} {x y : Operand} {s t : ByteArray} {c : Bool} (h : (!(sLt s t || decide (s = t))) = c) : AOp P ⟨d, .binOp .gtr xt x y yt, ty, pos, af, g⟩ [qc s, qc t] [] [] (qf c) := by
 subst h
 exact a_sgtr
end
def bk {α : Type} (g : α → Bool) (l : List α) : Nat → Nat
 | 0 => 0
 | k + 1 => match l[k]? with
  | some x => if g x then bk g l k else k + 1
  | none => k + 1
theorem bk_le {α : Type} (g : α → Bool) (l : List α) : ∀ k, bk g l k ≤ k
 | 0 => Nat.le_refl _
 | k + 1 => by
  have := bk_le g l k
  unfold bk
  split
  ·split <;> omega
  ·omega
theorem bk_yes {α : Type} {g : α → Bool} {l : List α} {k : Nat} {x : α} (h : l[k]? = some x) (hg : g x = true) : bk g l (k + 1) = bk g l k := by
 exact jcC
theorem bk_no {α : Type} {g : α → Bool} {l : List α} {k : Nat} {x : α} (h : l[k]? = some x) (hg : g x = false) : bk g l (k + 1) = k + 1 := by
 exact jcC
def insE {α : Type} (gt : α → α → Bool) (out : List α) (p : α) : List α := out.take (bk (fun x => gt x p) out out.length) ++ p :: out.drop (bk (fun x => gt x p) out out.length)
def zcz {α : Type} (gt : α → α → Bool) (l : List α) : List α := l.foldl (insE gt) []
theorem insE_len {α : Type} (gt : α → α → Bool) (out : List α) (p : α) : (insE gt out p).length = out.length + 1 := by
 have := bk_le (fun x => gt x p) out out.length
 unfold insE
 rw [qaC, qaO, List.length_take, qaP]
 omega
theorem zfQ {α : Type} (gt : α → α → Bool) (l : List α) (i : Nat) (x : α) (h : l[i]? = some x) : zcz gt (l.take (i + 1)) = insE gt (zcz gt (l.take i)) x := by
 obtain ⟨h1, h2⟩ := qaG.1 h
 unfold zcz
 rw [qaM h1, h2, qbJ]
 rfl
theorem foldE_len {α : Type} (gt : α → α → Bool) : ∀ (l out : List α), (l.foldl (insE gt) out).length = out.length + l.length
 | [], out => rfl
 | x :: l, out => by rw [List.foldl_cons, foldE_len gt l, insE_len, qaO]; omega
theorem zgW {α : Type} (gt : α → α → Bool) (l : List α) : (zcz gt l).length = l.length := by
 unfold zcz
 rw [foldE_len]
 simp
def gtP (p q : PE) : Bool := !(sLt p.key q.key || decide (p.key = q.key))
def gtN (m n : NtP) : Bool := decide (0 < zbD m.1 m.2 n.1 n.2)
theorem sortedP_s (l : List PE) (hn : l.length ≤ 1048576) : Fn Tryz.prog 97 [.p (.sl l.length 5 (l.flatMap PE.pv))] (.row 0) [(0, .row 48 5 l.length ((zcz gtP l).flatMap PE.pv))] := by
 refine fnI fun w0 A => ?_
 refine G [16] ?_
 refine zaH (zbY 3 100 48 5 rfl rfl) ?_
 refine zae (fun m st => ∃ i : Nat, m + i = l.length ∧ st = St.of [(3, .row 100), (8, .p (.sl l.length 5 (l.flatMap PE.pv))), (9, qd l.length), (10, qd i)] [(100, .row 48 5 i ((zcz gtP (l.take i)).flatMap PE.pv))]) l.length ?_ ?_
 ·exact jaW
 rintro m st ⟨i, hi, rfl⟩
 refine G [5] ?_
 refine cX ?_ ?_ <;> intro h
 ·have hlt : i < l.length := by simp at h; omega
  clear h
  obtain ⟨p, hp⟩ : ∃ p, l[i]? = some p := ⟨l[i], List.getElem?_eq_getElem hlt⟩
  have hch := zaj (f := PE.pv) (k := 5) (fun _ => rfl) hp
  have hle := zak (f := PE.pv) (k := 5) (fun _ => rfl) hlt
  have hnext := zfQ gtP l i p hp
  have hol : (zcz gtP (l.take i)).length = i := by rw [zgW, List.length_take]; omega
  generalize zcz gtP (l.take i) = out at *
  have hcl : (out.flatMap PE.pv).length = i * 5 := by rw [zas (f := PE.pv) (k := 5) (fun _ => rfl), hol]
  have hbl0 := bk_le (fun x => gtP x p) out out.length
  have hbl := hbl0
  rw [hol] at hbl
  have hins : (insE gtP out p).flatMap PE.pv = (out.flatMap PE.pv).take (bk (fun x => gtP x p) out out.length * 5) ++ PE.pv p ++ (out.flatMap PE.pv).drop (bk (fun x => gtP x p) out out.length * 5) := by
   unfold insE
   have h1 : ((out.take (bk (fun x => gtP x p) out out.length)).flatMap PE.pv).length = bk (fun x => gtP x p) out out.length * 5 := by rw [zas (f := PE.pv) (k := 5) (fun _ => rfl), List.length_take]; congr 1; omega
   have h2 : out.flatMap PE.pv = (out.take (bk (fun x => gtP x p) out out.length)).flatMap PE.pv ++ (out.drop (bk (fun x => gtP x p) out out.length)).flatMap PE.pv := by rw [← qaX, qa1]
   exact jch
  rw [hol] at hins
  have hx : ∀ k, (hk : k < i) → ((out.flatMap PE.pv).drop (k * 5)).take 5 = PE.pv (out[k]'qk) := fun k hk => zaj (f := PE.pv) (k := 5) (fun _ => rfl) (List.getElem?_eq_getElem qk)
  obtain ⟨pk, sh, ep, al, nn⟩ := p
  generalize hL : l.flatMap PE.pv = L at *
  refine G [8] ?_
  refine jc5 ?_
  refine G [9] ?_
  refine zeu (St.of [(3, .row 100), (5, .ref 5 0), (6, qd (bk (fun x => gtP x ⟨pk, sh, ep, al, nn⟩) out i : Nat)), (8, .p (.sl l.length 5 L)), (9, qd l.length), (10, qd i)] [(100, .row 48 5 i (out.flatMap PE.pv)), (5, .box 48 [qc pk, qc sh, qc ep, qd al, .p (.sl nn.length 2 (nn.flatMap ntC))])]) ?_ ?_
  ·refine zae (fun m2 st => m2 ≤ i ∧ bk (fun x => gtP x ⟨pk, sh, ep, al, nn⟩) out m2 = bk (fun x => gtP x ⟨pk, sh, ep, al, nn⟩) out i ∧ st = St.of [(3, .row 100), (5, .ref 5 0), (6, qd m2), (8, .p (.sl l.length 5 L)), (9, qd l.length), (10, qd i)] [(100, .row 48 5 i (out.flatMap PE.pv)), (5, .box 48 [qc pk, qc sh, qc ep, qd al, .p (.sl nn.length 2 (nn.flatMap ntC))])]) i ?_ ?_
   ·exact jbA
   rintro m2 st ⟨hm2, hbk, rfl⟩
   cases m2 with
   | zero =>
    have h0 : bk (fun x => gtP x ⟨pk, sh, ep, al, nn⟩) out i = 0 := hbk.symm
    rw [h0]
    refine G [4, 3, 14, 9, 0] ?_
    exact zad id _ _ qp qp rfl
   | succ k =>
    have hk2 := hx k qk
    have hat : out[k]? = some (out[k]'qk) := List.getElem?_eq_getElem qk
    have hcle := zak (f := PE.pv) (k := 5) (fun _ => rfl) (l := out) (i := k) qk
    have hk : (out.flatMap PE.pv)[k * 5 + 0]? = some (qg (out[k]'qk).key) := by
     have := congrArg (fun x => x[0]?) hk2
     rw [qa9, qa8] at this
     simpa [PE.pv] using this
    generalize hxx : (out[k]'qk) = x at *
    rcases hg : gtP x ⟨pk, sh, ep, al, nn⟩ with _ | _
    ·have hb2 := bk_no (g := fun x => gtP x ⟨pk, sh, ep, al, nn⟩) hat hg
     rw [hbk] at hb2
     rw [hb2]
     refine G [4, 4, 3] ?_
     refine zaa (zgf (show IntKind.i64.wrap (((k + 1 : Nat) : Int) - 1) = ((k : Nat) : Int) by rw [qa6 _ (by omega)]; omega)) rfl rfl ?_
     refine G [2] ?_
     refine jdZ (zbP U9 rfl hk) ?_
     refine G [2] ?_
     refine jdY (a_sgtrV (c := false) hg) ?_
     refine G [4, 9, 0] ?_
     exact zad id _ _ qp qp rfl
    ·have hb2 := bk_yes (g := fun x => gtP x ⟨pk, sh, ep, al, nn⟩) hat hg
     refine G [4, 4, 3] ?_
     refine zaa (zgf (show IntKind.i64.wrap (((k + 1 : Nat) : Int) - 1) = ((k : Nat) : Int) by rw [qa6 _ (by omega)]; omega)) rfl rfl ?_
     refine G [2] ?_
     refine jdZ (zbP U9 rfl hk) ?_
     refine G [2] ?_
     refine jdY (a_sgtrV (c := true) hg) ?_
     refine G [7] ?_
     refine zaa (zgf (show IntKind.i64.wrap (((k + 1 : Nat) : Int) - 1) = ((k : Nat) : Int) by rw [qa6 _ (by omega)]; omega)) rfl rfl ?_
     refine G [2, 9, 0] ?_
     refine ⟨k, qk, _, zad id _ _ ?_ ?_ rfl, qk, by rw [← hb2]; exact hbk, rfl⟩
     ·(repeat (first | exact trivial | (refine ⟨⟨qu, rfl⟩, ?_⟩)))
     ·exact ⟨⟨rfl, rfl⟩, ⟨rfl, rfl⟩, trivial⟩
  clear hx
  generalize bk (fun x => gtP x ⟨pk, sh, ep, al, nn⟩) out i = k at *
  generalize out.flatMap PE.pv = O at *
  change _ = O.take (k * 5) ++ [qg pk, qg sh, qg ep, qh al, .sl nn.length 2 (nn.flatMap ntC)] ++ O.drop (k * 5) at hins
  have ht1 : (O.take (k * 5)).length = k * 5 := by rw [List.length_take]; omega
  have hdr : (O.drop (k * 5)).take ((i - k) * 5) = O.drop (k * 5) := qaN qaa
  obtain ⟨O2, hO2⟩ : ∃ O2, (insE gtP out ⟨pk, sh, ep, al, nn⟩).flatMap PE.pv = O2 := ⟨_, rfl⟩
  rw [hO2] at hins
  refine G [2] ?_
  refine jdZ (za6 31 U22 sz48) ?_
  refine G [2] ?_
  refine zab (zdo (L := none) (H := (some (_, _))) U22 sz48 rfl ⟨qk, rfl⟩ qk qk (show Int.toNat (k : Int) - 0 = k by omega) rfl) rfl rfl ⟨rfl, trivial⟩ ?_
  refine zab (zaq 35 U22 eo48 (zfN qk rfl) qy qk (show 0 + k = k by omega) (show [] ++ (O.drop (0 * 5)).take (k * 5) = O.take (k * 5) by simp)) rfl rfl ⟨rfl, rfl, rfl, trivial⟩ ?_
  refine G [6] ?_
  refine jdZ (zai 38 U22 sz48 zc48 (qaA rfl) (qaA rfl) rfl rfl rfl rfl (qaA rfl)) ?_
  refine zab (zaq 39 U22 eo48 (zaU) qy qk rfl rfl) rfl rfl ⟨rfl, rfl, rfl, trivial⟩ ?_
  refine G [6] ?_
  refine zab (zdo (L := (some (_, _))) (H := none) U22 sz48 ⟨qk, rfl⟩ rfl qk qk (show i - Int.toNat (k : Int) = i - k by omega) (show Int.toNat (k : Int) * 5 = k * 5 by rw [qaS])) rfl rfl ⟨rfl, trivial⟩ ?_
  refine zab (zaq 44 U22 eo48 (zfN qk rfl) qy qk (show k + 1 + (i - k) = i + 1 by omega) (show (O.take (k * 5) ++ [qg pk, qg sh, qg ep, qh al, .sl nn.length 2 (nn.flatMap ntC)]) ++ (O.drop (k * 5)).take ((i - k) * 5) = O2 by rw [hdr]; exact hins.symm)) rfl rfl ⟨rfl, rfl, rfl, trivial⟩ ?_
  refine jcV ?_
  refine ⟨m - 1, qk, _, zad (fun o => bif Nat.beq o 100 then 44 else o) [(3, .row 100), (8, .p (.sl l.length 5 L)), (9, qd l.length), (10, qd (i + 1 : Nat))] [(100, .row 48 5 (i + 1) O2)] ?_ ?_ rfl, i + 1, qk, by rw [hnext, hO2]⟩
  ·exact ja5
  ·exact ⟨⟨rfl, rfl⟩, trivial⟩
 exact jaG
theorem sortedN_s (l : List NtP) (hn : l.length ≤ 1048576) : Fn Tryz.prog 98 [.p (.sl l.length 2 (l.flatMap ntC))] (.row 0) [(0, .row 82 2 l.length ((zcz gtN l).flatMap ntC))] := by
 refine fnI fun w0 A => ?_
 refine G [16] ?_
 refine zaH (zbY 3 100 82 2 rfl rfl) ?_
 refine zae (fun m st => ∃ i : Nat, m + i = l.length ∧ st = St.of [(3, .row 100), (8, .p (.sl l.length 2 (l.flatMap ntC))), (9, qd l.length), (10, qd i)] [(100, .row 82 2 i ((zcz gtN (l.take i)).flatMap ntC))]) l.length ?_ ?_
 ·exact jaW
 rintro m st ⟨i, hi, rfl⟩
 refine G [5] ?_
 refine cX ?_ ?_ <;> intro h
 ·have hlt : i < l.length := by simp at h; omega
  clear h
  obtain ⟨p, hp⟩ : ∃ p, l[i]? = some p := ⟨l[i], List.getElem?_eq_getElem hlt⟩
  have hch := zaj (f := ntC) (k := 2) (fun _ => rfl) hp
  have hle := zak (f := ntC) (k := 2) (fun _ => rfl) hlt
  have hnext := zfQ gtN l i p hp
  have hol : (zcz gtN (l.take i)).length = i := by rw [zgW, List.length_take]; omega
  generalize zcz gtN (l.take i) = out at *
  have hcl : (out.flatMap ntC).length = i * 2 := by rw [zas (f := ntC) (k := 2) (fun _ => rfl), hol]
  have hbl0 := bk_le (fun x => gtN x p) out out.length
  have hbl := hbl0
  rw [hol] at hbl
  have hins : (insE gtN out p).flatMap ntC = (out.flatMap ntC).take (bk (fun x => gtN x p) out out.length * 2) ++ ntC p ++ (out.flatMap ntC).drop (bk (fun x => gtN x p) out out.length * 2) := by
   unfold insE
   have h1 : ((out.take (bk (fun x => gtN x p) out out.length)).flatMap ntC).length = bk (fun x => gtN x p) out out.length * 2 := by rw [zas (f := ntC) (k := 2) (fun _ => rfl), List.length_take]; congr 1; omega
   have h2 : out.flatMap ntC = (out.take (bk (fun x => gtN x p) out out.length)).flatMap ntC ++ (out.drop (bk (fun x => gtN x p) out out.length)).flatMap ntC := by rw [← qaX, qa1]
   exact jch
  rw [hol] at hins
  have hx : ∀ k, (hk : k < i) → ((out.flatMap ntC).drop (k * 2)).take 2 = ntC (out[k]'qk) := fun k hk => zaj (f := ntC) (k := 2) (fun _ => rfl) (List.getElem?_eq_getElem qk)
  have hOr := fun m : NtP => nOrd_s m.1 m.2 p.1 p.2
  obtain ⟨na, nb⟩ := p
  generalize hL : l.flatMap ntC = L at *
  refine G [8] ?_
  refine jdZ (zac (Y := .agg [qe na, qd nb]) sz82 rfl rfl (qaB rfl)) ?_
  refine G [9] ?_
  refine zeu (St.of [(3, .row 100), (5, .ref 5 0), (6, qd (bk (fun x => gtN x ⟨na, nb⟩) out i : Nat)), (8, .p (.sl l.length 2 L)), (9, qd l.length), (10, qd i)] [(100, .row 82 2 i (out.flatMap ntC)), (5, .box 82 [qe na, qd nb])]) ?_ ?_
  ·refine zae (fun m2 st => m2 ≤ i ∧ bk (fun x => gtN x ⟨na, nb⟩) out m2 = bk (fun x => gtN x ⟨na, nb⟩) out i ∧ st = St.of [(3, .row 100), (5, .ref 5 0), (6, qd m2), (8, .p (.sl l.length 2 L)), (9, qd l.length), (10, qd i)] [(100, .row 82 2 i (out.flatMap ntC)), (5, .box 82 [qe na, qd nb])]) i ?_ ?_
   ·exact jbA
   rintro m2 st ⟨hm2, hbk, rfl⟩
   cases m2 with
   | zero =>
    have h0 : bk (fun x => gtN x ⟨na, nb⟩) out i = 0 := hbk.symm
    rw [h0]
    refine G [4, 3, 13, 9, 0] ?_
    exact zad id _ _ qp qp rfl
   | succ k =>
    have hk2 := hx k qk
    have hat : out[k]? = some (out[k]'qk) := List.getElem?_eq_getElem qk
    have hcle := zak (f := ntC) (k := 2) (fun _ => rfl) (l := out) (i := k) qk
    have hk := hk2
    have hO := hOr (out[k]'qk)
    generalize hxx : (out[k]'qk) = x at *
    rcases hg : gtN x ⟨na, nb⟩ with _ | _
    ·have hb2 := bk_no (g := fun x => gtN x ⟨na, nb⟩) hat hg
     rw [hbk] at hb2
     rw [hb2]
     refine G [4, 4, 3] ?_
     refine zaa (zgf (show IntKind.i64.wrap (((k + 1 : Nat) : Int) - 1) = ((k : Nat) : Int) by rw [qa6 _ (by omega)]; omega)) rfl rfl ?_
     refine zab (zaw U46 sz82 qk qk qv) rfl rfl ⟨rfl, trivial⟩ ?_
     refine zab (zd2 U82 rfl sz82 qk (hk)) rfl rfl ⟨rfl, trivial⟩ ?_
     refine lN U82 rfl sz82 rfl rfl ⟨rfl, trivial⟩ ?_
     refine cK hO ?_
     refine zaa (a_gtrV (c := false) (by simpa [gtN] using hg)) rfl rfl ?_
     refine G [4, 9, 0] ?_
     exact zad id _ _ qp qp rfl
    ·have hb2 := bk_yes (g := fun x => gtN x ⟨na, nb⟩) hat hg
     refine G [4, 4, 3] ?_
     refine zaa (zgf (show IntKind.i64.wrap (((k + 1 : Nat) : Int) - 1) = ((k : Nat) : Int) by rw [qa6 _ (by omega)]; omega)) rfl rfl ?_
     refine zab (zaw U46 sz82 qk qk qv) rfl rfl ⟨rfl, trivial⟩ ?_
     refine zab (zd2 U82 rfl sz82 qk (hk)) rfl rfl ⟨rfl, trivial⟩ ?_
     refine lN U82 rfl sz82 rfl rfl ⟨rfl, trivial⟩ ?_
     refine cK hO ?_
     refine zaa (a_gtrV (c := true) (by simpa [gtN] using hg)) rfl rfl ?_
     refine G [7] ?_
     refine zaa (zgf (show IntKind.i64.wrap (((k + 1 : Nat) : Int) - 1) = ((k : Nat) : Int) by rw [qa6 _ (by omega)]; omega)) rfl rfl ?_
     refine G [2, 9, 0] ?_
     refine ⟨k, qk, _, zad id _ _ ?_ ?_ rfl, qk, by rw [← hb2]; exact hbk, rfl⟩
     ·(repeat (first | exact trivial | (refine ⟨⟨qu, rfl⟩, ?_⟩)))
     ·exact ⟨⟨rfl, rfl⟩, ⟨rfl, rfl⟩, trivial⟩
  clear hx
  generalize bk (fun x => gtN x ⟨na, nb⟩) out i = k at *
  generalize out.flatMap ntC = O at *
  change _ = O.take (k * 2) ++ [qi na, qh nb] ++ O.drop (k * 2) at hins
  have ht1 : (O.take (k * 2)).length = k * 2 := by rw [List.length_take]; omega
  have hdr : (O.drop (k * 2)).take ((i - k) * 2) = O.drop (k * 2) := qaN qaa
  obtain ⟨O2, hO2⟩ : ∃ O2, (insE gtN out ⟨na, nb⟩).flatMap ntC = O2 := ⟨_, rfl⟩
  rw [hO2] at hins
  refine G [2] ?_
  refine jdZ (za6 30 U46 sz82) ?_
  refine G [2] ?_
  refine zab (zdo (L := none) (H := (some (_, _))) U46 sz82 rfl ⟨qk, rfl⟩ qk qk (show Int.toNat (k : Int) - 0 = k by omega) rfl) rfl rfl ⟨rfl, trivial⟩ ?_
  refine zab (zaq 34 U46 eo82 (zfN qk rfl) qy qk (show 0 + k = k by omega) (show [] ++ (O.drop (0 * 2)).take (k * 2) = O.take (k * 2) by simp)) rfl rfl ⟨rfl, rfl, rfl, trivial⟩ ?_
  refine G [6] ?_
  refine jdZ (zai 37 U46 sz82 zc82 (qaA rfl) (qaA rfl) rfl rfl rfl rfl (qaA rfl)) ?_
  refine zab (zaq 38 U46 eo82 (zaU) qy qk rfl rfl) rfl rfl ⟨rfl, rfl, rfl, trivial⟩ ?_
  refine G [6] ?_
  refine zab (zdo (L := (some (_, _))) (H := none) U46 sz82 ⟨qk, rfl⟩ rfl qk qk (show i - Int.toNat (k : Int) = i - k by omega) (show Int.toNat (k : Int) * 2 = k * 2 by rw [qaS])) rfl rfl ⟨rfl, trivial⟩ ?_
  refine zab (zaq 43 U46 eo82 (zfN qk rfl) qy qk (show k + 1 + (i - k) = i + 1 by omega) (show (O.take (k * 2) ++ [qi na, qh nb]) ++ (O.drop (k * 2)).take ((i - k) * 2) = O2 by rw [hdr]; exact hins.symm)) rfl rfl ⟨rfl, rfl, rfl, trivial⟩ ?_
  refine jcV ?_
  refine ⟨m - 1, qk, _, zad (fun o => bif Nat.beq o 100 then 43 else o) [(3, .row 100), (8, .p (.sl l.length 2 L)), (9, qd l.length), (10, qd (i + 1 : Nat))] [(100, .row 82 2 (i + 1) O2)] ?_ ?_ rfl, i + 1, qk, by rw [hnext, hO2]⟩
  ·exact ja5
  ·exact ⟨⟨rfl, rfl⟩, trivial⟩
 exact jaG
end Go.Proofs.YtlfjpippeeikdaaGreatDoor
