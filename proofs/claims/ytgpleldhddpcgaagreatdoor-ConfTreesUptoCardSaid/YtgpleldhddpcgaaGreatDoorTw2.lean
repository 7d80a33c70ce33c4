/- trie: growing a tree of a list. -/
import Derived.Test.YtgpleldhddpcgaaGreatDoorTw1
--%T
namespace Go.Proofs.YtgpleldhddpcgaaGreatDoor
open Go.RowKit Go.Sort
set_option linter.unusedVariables false
set_option linter.unusedSimpArgs false
set_option maxRecDepth 100000

/-- a tree as the data that it is -/
def trP : TR → PV
  | .nil => .v (.pointer none)
  | .nd p o l r => .pt [.v (.int .u32 (addrK p)), .v (.int .i64 p.length), .v (.string o), trP l, trP r]
def nds (l : List ND) : List PV := l.flatMap ND.pv
def ndsV (l : List ND) : PV := .sl l.length 4 (nds l)
theorem nds_cons (x : ND) (l : List ND) : nds (x :: l) = .v (.int .u32 x.a) :: .v (.int .i64 x.n) :: .v (.string x.o) :: .v (.int .i64 x.s) :: nds l := rfl
theorem nds_app (l r : List ND) : nds (l ++ r) = nds l ++ nds r := by simp [nds]
theorem nds_len : ∀ l : List ND, (nds l).length = l.length * 4
  | [] => rfl
  | x :: l => by rw [nds_cons]; simp only [List.length_cons, nds_len l]; omega
theorem nds_take : ∀ (l : List ND) (k : Nat), (nds l).take (k * 4) = nds (l.take k)
  | l, 0 => by simp [nds]
  | [], k + 1 => by simp [nds]
  | x :: l, k + 1 => by
    rw [nds_cons, List.take_succ_cons, nds_cons, ← nds_take l k, show (k + 1) * 4 = k * 4 + 1 + 1 + 1 + 1 by omega]
    simp only [List.take_succ_cons]
theorem nds_drop : ∀ (l : List ND) (k : Nat), (nds l).drop (k * 4) = nds (l.drop k)
  | l, 0 => by simp
  | [], k + 1 => by simp [nds]
  | x :: l, k + 1 => by
    rw [nds_cons, List.drop_succ_cons, ← nds_drop l k, show (k + 1) * 4 = k * 4 + 1 + 1 + 1 + 1 by omega]
    simp only [List.drop_succ_cons]
theorem nds_take_all (l : List ND) : (nds l).take (l.length * 4) = nds l := by rw [nds_take, List.take_length]
def growRes : Option (TR × List ND) → AV
  | none => .tup [.p (.v (.pointer none)), .p (.v (.slice none 0 0)), .p (.v (.bool false))]
  | some (t, rest) => .tup [.p (trP t), .p (ndsV rest), .p (.v (.bool true))]
section
variable {P : Program} {d : Option Tmp} {ty : TypeId} {pos : String} {af : Array Edge} {g : Option (Nat × Bool)} {x y : Operand} {xt yt e : TypeId}
theorem a_pneTR {t : TR} (hu : P.underlying xt = some (.pointer e)) : AOp P ⟨d, .binOp .neq xt x y yt, ty, pos, af, g⟩ [.p (trP t), .p (.v (.pointer none))] [] [] (.p (.v (.bool (!t.isNil)))) := by
  cases t
  · exact a_pneNN hu
  · exact a_pnePN hu
theorem a_peqTR {t : TR} (hu : P.underlying xt = some (.pointer e)) : AOp P ⟨d, .binOp .eql xt x y yt, ty, pos, af, g⟩ [.p (trP t), .p (.v (.pointer none))] [] [] (.p (.v (.bool t.isNil))) := by
  cases t
  · exact a_peqNN hu
  · exact a_peqPN hu
end
theorem kidsF_short {g : List ND → Option (TR × List ND)} : True := trivial

set_option maxHeartbeats 4000000 in
theorem grow_s : ∀ (n : Nat) (l : List ND), l.length ≤ n → (∀ x ∈ l, x.OK) → l.length ≤ 4611686018427387904 → Fn Tryz.prog 96 [.p (ndsV l)] (growRes (growF n l)) []
  | 0, l, hn, hok, hz => by
    obtain rfl := List.eq_nil_of_length_eq_zero (Nat.le_zero.1 hn)
    show Fn Tryz.prog 96 [.p (.sl 0 4 [])] (.tup [.p (.v (.pointer none)), .p (.v (.slice none 0 0)), .p (.v (.bool false))]) []
    refine fn_intro Tryz.func96 rfl (Nat.le_of_ble_eq_true rfl) fun w0 A => ?_
    refine awp_seq ?_
    refine tx ?_
    refine aP rfl rfl ?_
    refine aP rfl rfl ?_
    refine aP rfl rfl ?_
    refine arun_nil ?_
    refine awp_seq (awp_seq ?_)
    refine tx ?_
    refine mP rfl rfl ?_
    refine r_pure (a_lenS Tryz.underlying25) rfl rfl ?_
    refine r_pure a_eqlT rfl rfl ?_
    refine mP rfl rfl ?_
    refine r_skipG rfl ?_
    refine r_skipG rfl ?_
    refine r_skipG rfl ?_
    refine r_skipG rfl ?_
    refine r_skipG rfl ?_
    refine r_pure a_pickT rfl rfl ?_
    refine mP rfl rfl ?_
    refine r_skipG rfl ?_
    refine r_skipG rfl ?_
    refine r_skipG rfl ?_
    refine r_skipG rfl ?_
    refine r_skipG rfl ?_
    refine r_skipG rfl ?_
    refine r_skipG rfl ?_
    refine r_pure a_pickT rfl rfl ?_
    refine mP rfl rfl ?_
    refine r_skipG rfl ?_
    refine r_skipG rfl ?_
    refine r_skipG rfl ?_
    refine r_skipG rfl ?_
    refine r_skipG rfl ?_
    refine r_skipG rfl ?_
    refine r_pure a_pickT rfl rfl ?_
    refine arun_nil ?_
    refine thn_n ?_
    refine awp_cond _ rfl (fun h => ?_) (fun h => ?_)
    · refine awp_seq ?_
      refine tx ?_
      refine aP rfl rfl ?_
      refine aP rfl rfl ?_
      refine aP rfl rfl ?_
      refine arun_nil ?_
      refine awp_ret (thn_r ?_)
      refine fT (fun o => o) (.tmp _ _ _ _ rfl (.tmp _ _ _ _ rfl (.tmp _ _ _ _ rfl .nil))) ?_ ?_
      · exact rfl
      · exact trivial
    · cases h
  | n + 1, [], hn, hok, hz => by
    show Fn Tryz.prog 96 [.p (.sl 0 4 [])] (.tup [.p (.v (.pointer none)), .p (.v (.slice none 0 0)), .p (.v (.bool false))]) []
    refine fn_intro Tryz.func96 rfl (Nat.le_of_ble_eq_true rfl) fun w0 A => ?_
    refine awp_seq ?_
    refine tx ?_
    refine aP rfl rfl ?_
    refine aP rfl rfl ?_
    refine aP rfl rfl ?_
    refine arun_nil ?_
    refine awp_seq (awp_seq ?_)
    refine tx ?_
    refine mP rfl rfl ?_
    refine r_pure (a_lenS Tryz.underlying25) rfl rfl ?_
    refine r_pure a_eqlT rfl rfl ?_
    refine mP rfl rfl ?_
    refine r_skipG rfl ?_
    refine r_skipG rfl ?_
    refine r_skipG rfl ?_
    refine r_skipG rfl ?_
    refine r_skipG rfl ?_
    refine r_pure a_pickT rfl rfl ?_
    refine mP rfl rfl ?_
    refine r_skipG rfl ?_
    refine r_skipG rfl ?_
    refine r_skipG rfl ?_
    refine r_skipG rfl ?_
    refine r_skipG rfl ?_
    refine r_skipG rfl ?_
    refine r_skipG rfl ?_
    refine r_pure a_pickT rfl rfl ?_
    refine mP rfl rfl ?_
    refine r_skipG rfl ?_
    refine r_skipG rfl ?_
    refine r_skipG rfl ?_
    refine r_skipG rfl ?_
    refine r_skipG rfl ?_
    refine r_skipG rfl ?_
    refine r_pure a_pickT rfl rfl ?_
    refine arun_nil ?_
    refine thn_n ?_
    refine awp_cond _ rfl (fun h => ?_) (fun h => ?_)
    · refine awp_seq ?_
      refine tx ?_
      refine aP rfl rfl ?_
      refine aP rfl rfl ?_
      refine aP rfl rfl ?_
      refine arun_nil ?_
      refine awp_ret (thn_r ?_)
      refine fT (fun o => o) (.tmp _ _ _ _ rfl (.tmp _ _ _ _ rfl (.tmp _ _ _ _ rfl .nil))) ?_ ?_
      · exact rfl
      · exact trivial
    · cases h
  | n + 1, x :: l, hn, hok, hz => by
    have ih := grow_s n
    have hx := hok x (by simp)
    have hokl : ∀ y ∈ l, y.OK := fun y hy => hok y (by simp [hy])
    obtain ⟨a, b, o, s⟩ := x
    have hC := nCheck_s a b hx.a0 hx.a1
    have hz' : l.length + 1 ≤ 4611686018427387904 := by simpa using hz
    have s0 := hx.s0
    have s1 := hx.s1
    simp only at s0 s1
    rw [growF]
    show Fn Tryz.prog 96 [.p (.sl (l.length + 1) 4 (.v (.int .u32 a) :: .v (.int .i64 b) :: .v (.string o) :: .v (.int .i64 s) :: nds l))] _ []
    obtain ⟨F, hF⟩ : ∃ F, F = netFault a b := ⟨_, rfl⟩
    rw [← hF] at hC
    have hfz : (ND.fault ⟨a, b, o, s⟩) = F := hF.symm
    rw [hfz]
    refine fn_intro Tryz.func96 rfl (Nat.le_of_ble_eq_true rfl) fun w0 A => ?_
    refine awp_seq ?_
    refine tx ?_
    refine aP rfl rfl ?_
    refine aP rfl rfl ?_
    refine aP rfl rfl ?_
    refine arun_nil ?_
    refine awp_seq (awp_seq ?_)
    refine tx ?_
    refine mP rfl rfl ?_
    refine r_pure (a_lenS Tryz.underlying25) rfl rfl ?_
    refine r_pure a_eql rfl rfl ?_
    refine mP rfl rfl ?_
    refine mP rfl rfl ?_
    refine r_pure (a_indexAddrS Tryz.underlying25 sz55 (by omega) (by omega) rfl) rfl rfl ?_
    refine r_pure (b_fieldAddrP fi55_2 rfl) rfl rfl ?_
    refine r_pure (a_load1p Tryz.underlying3 rfl (by first | rfl | assumption | ((try simp only [List.getElem?_drop, List.getElem?_take, Int.toNat_natCast, Nat.mul_one, Nat.add_zero, Nat.zero_add]); first | assumption | rfl))) rfl rfl ?_
    refine r_pure a_lss rfl rfl ?_
    refine r_pure a_pickF rfl rfl ?_
    refine mP rfl rfl ?_
    refine mb2 _ rfl rfl (fun hb => (a_move (r := .p _))) (fun _ => trivial) ?_
    refine mb2 _ rfl rfl (fun hb => (a_indexAddrS Tryz.underlying25 sz55 (by omega) (by omega) rfl)) (fun _ => trivial) ?_
    refine mb2 _ rfl rfl (fun hb => (b_fieldAddrP fi55_2 rfl)) (fun _ => trivial) ?_
    refine mb2 _ rfl rfl (fun hb => (a_load1p Tryz.underlying3 rfl (by first | rfl | assumption | ((try simp only [List.getElem?_drop, List.getElem?_take, Int.toNat_natCast, Nat.mul_one, Nat.add_zero, Nat.zero_add]); first | assumption | rfl)))) (fun _ => trivial) ?_
    refine mb2 _ rfl rfl (fun hb => (a_move (r := .p _))) (fun _ => trivial) ?_
    refine mb2 _ rfl rfl (fun hb => (a_lenS Tryz.underlying25)) (fun _ => trivial) ?_
    refine mb2 _ rfl rfl (fun hb => a_gtr) (fun _ => trivial) ?_
    refine r_pure (a_or (by first | exact id | (simp; done) | grind)) rfl rfl ?_
    refine mP rfl rfl ?_
    refine mb2 _ rfl rfl (fun hb => (a_move (r := .p _))) (fun _ => trivial) ?_
    refine mb2 _ rfl rfl (fun hb => (a_indexAddrS Tryz.underlying25 sz55 (by omega) (by omega) rfl)) (fun _ => trivial) ?_
    refine mb2 _ rfl rfl (fun hb => (b_fieldAddrP fi55_0 rfl)) (fun _ => trivial) ?_
    refine mb2 _ rfl rfl (fun hb => (a_loadNp Tryz.underlying52 rfl sz52 (by first | omega | (simp; done) | (simp; omega)) (rfl))) (fun _ => trivial) ?_
    refine mb2 _ rfl rfl (fun _ => a_callS0 Tryz.func57 rfl rfl (hC) (by first | rfl | simp [AV.okInL, AV.okIn, okInL_map]) rfl) (fun _ => trivial) ?_
    refine mb2 _ rfl rfl (fun hb => a_neq) (fun _ => trivial) ?_
    refine r_pure (a_or (by first | exact id | (simp; done) | grind)) rfl rfl ?_
    refine arun_nil ?_
    refine thn_n ?_
    refine awp_cond _ rfl (fun h => ?_) (fun h => ?_)
    · have hc : s < 1 ∨ ((l.length + 1 : Nat) : Int) < s ∨ F ≠ 0 := by
        simp at h
        omega
      rw [if_pos hc]
      refine awp_seq ?_
      refine tx ?_
      refine aP rfl rfl ?_
      refine aP rfl rfl ?_
      refine aP rfl rfl ?_
      refine arun_nil ?_
      refine awp_ret (thn_r ?_)
      refine fT (fun o => o) (.tmp _ _ _ _ rfl (.tmp _ _ _ _ rfl (.tmp _ _ _ _ rfl .nil))) ?_ ?_
      · exact rfl
      · exact trivial
    have hc : ¬ (s < 1 ∨ ((l.length + 1 : Nat) : Int) < s ∨ F ≠ 0) := by
      simp at h
      omega
    clear h
    rw [if_neg hc]
    simp only [not_or, Int.not_lt] at hc
    obtain ⟨c1, c2, c3⟩ := hc
    replace c3 : F = 0 := Decidable.not_not.1 c3
    obtain ⟨q1, q2, q3⟩ := ND.keyed hx.a0 hx.a1 (hfz.trans c3)
    generalize ND.key ⟨a, b, o, s⟩ = p at q1 q2 q3 ⊢
    simp only at q2 q3
    subst q2
    subst q3
    obtain ⟨k, rfl⟩ : ∃ k : Nat, s = ((k + 1 : Nat) : Int) := ⟨(s - 1).toNat, by omega⟩
    have hk : k ≤ l.length := by omega
    clear hC hfz hF c3
    rw [show ((k + 1 : Nat) : Int).toNat - 1 = k by omega]
    obtain ⟨K, hK⟩ : ∃ K, K = kidsF (growF n) p (l.take k).length .nil .nil (l.take k) := ⟨_, rfl⟩
    rw [← hK]
    have hdl : (l.drop k).length = l.length - k := by simp
    have htl : (l.take k).length = k := by simp; omega
    have hnt : ((k + 1 : Nat) : Int).toNat - Int.toNat 1 = (l.take k).length := by rw [htl]; simp
    have hst : (nds l).take ((l.take k).length * 4) = nds (l.take k) := by rw [htl]; exact nds_take l k
    have hnn : l.length + 1 - ((k + 1 : Nat) : Int).toNat = (l.drop k).length := by simp
    have hsub : (List.drop (((k + 1 : Nat) : Int).toNat * 4) (nds (⟨addrK p, p.length, o, ((k + 1 : Nat) : Int)⟩ :: l))).take ((l.drop k).length * 4) = nds (l.drop k) := by
      rw [Int.toNat_natCast, nds_drop, List.drop_succ_cons]; exact nds_take_all _
    refine awp_skip (awp_seq ?_)
    refine awp_draw 4 (by kernel_rfl) ?_
    refine mP rfl rfl ?_
    refine r_pure (a_indexAddrS Tryz.underlying25 sz55 (by omega) (by omega) rfl) rfl rfl ?_
    refine r_pure (b_fieldAddrP fi55_0 rfl) rfl rfl ?_
    refine r_pure (a_loadNp Tryz.underlying52 rfl sz52 (by first | omega | (simp; done) | (simp; omega)) (rfl)) rfl rfl ?_
    refine mP rfl rfl ?_
    refine r_pure (a_indexAddrS Tryz.underlying25 sz55 (by omega) (by omega) rfl) rfl rfl ?_
    refine r_pure (b_fieldAddrP fi55_1 rfl) rfl rfl ?_
    refine r_pure (a_load1p Tryz.underlying9 rfl (by first | rfl | assumption | ((try simp only [List.getElem?_drop, List.getElem?_take, Int.toNat_natCast, Nat.mul_one, Nat.add_zero, Nat.zero_add]); first | assumption | rfl))) rfl rfl ?_
    refine r_pure (b_build pl146 zr146 rfl rfl) rfl rfl ?_
    refine r_run (a_box (X := .agg _) 48 rfl) rfl rfl ⟨rfl, trivial⟩ ?_
    refine r_pure (a_assign (r := .ref _ _)) rfl rfl ?_
    refine arun_nil ⟨by kernel_rfl, ?_⟩
    refine awp_seq ?_
    refine awp_draw 4 (by kernel_rfl) ?_
    refine mP rfl rfl ?_
    refine mP rfl rfl ?_
    refine r_pure (a_indexAddrS Tryz.underlying25 sz55 (by omega) (by omega) rfl) rfl rfl ?_
    refine r_pure (b_fieldAddrP fi55_2 rfl) rfl rfl ?_
    refine r_pure (a_load1p Tryz.underlying3 rfl (by first | rfl | assumption | ((try simp only [List.getElem?_drop, List.getElem?_take, Int.toNat_natCast, Nat.mul_one, Nat.add_zero, Nat.zero_add]); first | assumption | rfl))) rfl rfl ?_
    refine r_pure (a_sliceS (L := (some (_, _))) (H := (some (_, _))) Tryz.underlying25 sz55 ⟨by omega, rfl⟩ ⟨by omega, rfl⟩ (by omega) (by omega) hnt (by exact hst)) rfl rfl ?_
    refine mP rfl rfl ?_
    refine mP rfl rfl ?_
    refine r_pure (a_indexAddrS Tryz.underlying25 sz55 (by omega) (by omega) rfl) rfl rfl ?_
    refine r_pure (b_fieldAddrP fi55_2 rfl) rfl rfl ?_
    refine r_pure (a_load1p Tryz.underlying3 rfl (by first | rfl | assumption | ((try simp only [List.getElem?_drop, List.getElem?_take, Int.toNat_natCast, Nat.mul_one, Nat.add_zero, Nat.zero_add]); first | assumption | rfl))) rfl rfl ?_
    refine r_pure (a_sliceS (L := (some (_, _))) (H := none) Tryz.underlying25 sz55 ⟨by omega, rfl⟩ rfl (by omega) (by omega) hnn (by exact hsub)) rfl rfl ?_
    refine aP rfl rfl ?_
    refine aP rfl rfl ?_
    refine arun_nil ⟨by kernel_rfl, ?_⟩
    refine awp_seq (awp_block ?_)
    refine awp_loopR (fun m st => ∃ (k0 k1 : TR) (mine : List ND), mine.length ≤ m ∧ mine.length ≤ l.length ∧ (∀ y ∈ mine, y.OK) ∧ kidsF (growF n) p m k0 k1 mine = K ∧ st = St.of [(5, .ref 48 0), (6, .p (ndsV mine)), (7, .p (ndsV (l.drop k)))] [(48, .box 146 [.p (.v (.int .u32 (addrK p))), .p (.v (.int .i64 p.length)), .p (.v (.string o)), .p (trP k0), .p (trP k1)])]) (l.take k).length ?_ ?_
    · refine ⟨_, re_of id _ _ ?_ ?_ rfl, .nil, .nil, l.take k, Nat.le_refl _, by omega, fun y hy => hokl y (List.mem_of_mem_take hy), hK.symm, rfl⟩
      · exact ⟨⟨rfl, rfl⟩, ⟨rfl, rfl⟩, ⟨rfl, rfl⟩, trivial⟩
      · exact ⟨⟨rfl, rfl⟩, trivial⟩
    rintro m st ⟨k0, k1, mine, hm, hmn, hmok, hmK, rfl⟩
    refine awp_seq (awp_seq ?_)
    refine tx ?_
    refine mP rfl rfl ?_
    refine r_pure (a_lenS Tryz.underlying25) rfl rfl ?_
    refine r_pure a_gtr rfl rfl ?_
    refine arun_nil ?_
    refine thn_n ?_
    refine awp_cond _ rfl (fun h => ?_) (fun h => ?_)
    · have hpos : 0 < mine.length := by simp at h; omega
      clear h
      have hg := ih mine (by simp at hn; omega) hmok (by omega)
      obtain ⟨y, mine', rfl⟩ : ∃ y m', mine = y :: m' := by cases mine with | nil => simp at hpos | cons y m' => exact ⟨y, m', rfl⟩
      obtain ⟨m, rfl⟩ : ∃ m', m = m' + 1 := ⟨m - 1, by omega⟩
      simp only [kidsF] at hmK
      cases hq : growF n (y :: mine') with
      | none =>
        rw [hq] at hmK hg
        subst hmK
        replace hg : Fn Tryz.prog 96 [.p (ndsV (y :: mine'))] (.tup [.p (.v (.pointer none)), .p (.v (.slice none 0 0)), .p (.v (.bool false))]) [] := hg
        refine awp_skip (awp_block (awp_seq ?_))
        refine tx ?_
        refine mP rfl rfl ?_
        refine r_callS (fun n => 66 + 1000 * n) (hg) rfl rfl Tryz.func96 rfl rfl (by first | rfl | simp [AV.okInL, AV.okIn, okInL_map]) rfl rfl rfl (by first | exact trivial | exact ⟨rfl, trivial⟩ | exact ⟨rfl, rfl, trivial⟩) rfl rfl rfl ?_
        refine r_pure (a_move (r := .tup _)) rfl rfl ?_
        refine r_pure (a_extract rfl) rfl rfl ?_
        refine r_pure (a_extract rfl) rfl rfl ?_
        refine r_pure (a_extract rfl) rfl rfl ?_
        refine aP rfl rfl ?_
        refine aP rfl rfl ?_
        refine aP rfl rfl ?_
        refine arun_nil ?_
        refine awp_seq (awp_seq ?_)
        refine awp_draw 4 (by kernel_rfl) ?_
        refine mP rfl rfl ?_
        refine r_pure a_not rfl rfl ?_
        refine mP rfl rfl ?_
        refine r_skipG rfl ?_
        refine r_skipG rfl ?_
        refine r_skipG rfl ?_
        refine r_skipG rfl ?_
        refine r_skipG rfl ?_
        refine r_skipG rfl ?_
        refine r_skipG rfl ?_
        refine r_skipG rfl ?_
        refine r_skipG rfl ?_
        refine r_skipG rfl ?_
        refine r_pure a_pickT rfl rfl ?_
        refine arun_nil ⟨by kernel_rfl, ?_⟩
        refine thn_n ?_
        refine awp_cond _ rfl (fun h => ?_) (fun h => ?_)
        · refine awp_seq ?_
          refine tx ?_
          refine aP rfl rfl ?_
          refine aP rfl rfl ?_
          refine aP rfl rfl ?_
          refine arun_nil ?_
          refine awp_ret (thn_r (inb_r (thn_r (inb_r (thn_r ?_)))))
          refine fT (fun o => o) (.tmp _ _ _ _ rfl (.tmp _ _ _ _ rfl (.tmp _ _ _ _ rfl .nil))) ?_ ?_
          · exact rfl
          · exact trivial
        · cases h
      | some r =>
        obtain ⟨t', more⟩ := r
        obtain ⟨⟨gv, gs, gn⟩, gl⟩ := growF_sound hmok hq
        cases t' with
        | nil => exact absurd rfl gn
        | nd q o' ka kb =>
          rw [hq] at hmK hg
          simp only at hmK
          have gq := gs.1
          replace hg : Fn Tryz.prog 96 [.p (ndsV (y :: mine'))] (.tup [.p (.pt [.v (.int .u32 (addrK q)), .v (.int .i64 q.length), .v (.string o'), trP ka, trP kb]), .p (ndsV more), .p (.v (.bool true))]) [] := hg
          have hB := below_s p q q1 gq
          refine awp_skip (awp_block (awp_seq ?_))
          refine tx ?_
          refine mP rfl rfl ?_
          refine r_callS (fun n => 66 + 1000 * n) (hg) rfl rfl Tryz.func96 rfl rfl (by first | rfl | simp [AV.okInL, AV.okIn, okInL_map]) rfl rfl rfl (by first | exact trivial | exact ⟨rfl, trivial⟩ | exact ⟨rfl, rfl, trivial⟩) rfl rfl rfl ?_
          refine r_pure (a_move (r := .tup _)) rfl rfl ?_
          refine r_pure (a_extract rfl) rfl rfl ?_
          refine r_pure (a_extract rfl) rfl rfl ?_
          refine r_pure (a_extract rfl) rfl rfl ?_
          refine aP rfl rfl ?_
          refine aP rfl rfl ?_
          refine aP rfl rfl ?_
          refine arun_nil ?_
          cases hbw : belowB p q with
          | false =>
            rw [hbw, if_neg (by simp)] at hmK
            rw [hbw] at hB
            subst hmK
            refine awp_seq (awp_seq ?_)
            refine awp_draw 4 (by kernel_rfl) ?_
            refine mP rfl rfl ?_
            refine r_pure a_not rfl rfl ?_
            refine mP rfl rfl ?_
            refine r_pure (a_move (r := .ref _ _)) rfl rfl ?_
            refine r_pure a_nilRef rfl rfl ?_
            refine fA fi146_0 rfl rfl ?_
            refine lN Tryz.underlying52 rfl sz52 rfl rfl ⟨rfl, trivial⟩ ?_
            refine mP rfl rfl ?_
            refine r_pure a_nilPt rfl rfl ?_
            refine r_pure (b_fieldAddrP fi146_0 rfl) rfl rfl ?_
            refine r_pure (a_loadNp Tryz.underlying52 rfl sz52 (by first | omega | (simp; done) | (simp; omega)) (rfl)) rfl rfl ?_
            refine r_callV (fun n => 81 + 1000 * n) (hB) rfl rfl Tryz.func142 rfl rfl (by first | rfl | simp [AV.noSl, AV.noSlL, AObj.noSl, PV.isV, bs_noSl]) (by first | rfl | simp [AV.noSl, AV.noSlL, AObj.noSl, PV.isV, bs_noSl]) rfl rfl rfl (by first | exact trivial | exact ⟨rfl, trivial⟩ | exact ⟨rfl, rfl, trivial⟩) rfl rfl rfl ?_
            refine r_pure a_not rfl rfl ?_
            refine r_pure a_pickF rfl rfl ?_
            refine arun_nil ⟨by kernel_rfl, ?_⟩
            refine thn_n ?_
            refine awp_cond _ rfl (fun h => ?_) (fun h => ?_)
            · refine awp_seq ?_
              refine tx ?_
              refine aP rfl rfl ?_
              refine aP rfl rfl ?_
              refine aP rfl rfl ?_
              refine arun_nil ?_
              refine awp_ret (thn_r (inb_r (thn_r (inb_r (thn_r ?_)))))
              refine fT (fun o => o) (.tmp _ _ _ _ rfl (.tmp _ _ _ _ rfl (.tmp _ _ _ _ rfl .nil))) ?_ ?_
              · exact rfl
              · exact trivial
            · cases h
          | true =>
          rw [hbw, if_pos rfl] at hmK
          rw [hbw] at hB
          have hbl : p.length < q.length := by unfold belowB at hbw; simp at hbw; exact hbw.1
          have hS := side_s p q hbl gq
          refine awp_seq (awp_seq ?_)
          refine awp_draw 4 (by kernel_rfl) ?_
          refine mP rfl rfl ?_
          refine r_pure a_not rfl rfl ?_
          refine mP rfl rfl ?_
          refine r_pure (a_move (r := .ref _ _)) rfl rfl ?_
          refine r_pure a_nilRef rfl rfl ?_
          refine fA fi146_0 rfl rfl ?_
          refine lN Tryz.underlying52 rfl sz52 rfl rfl ⟨rfl, trivial⟩ ?_
          refine mP rfl rfl ?_
          refine r_pure a_nilPt rfl rfl ?_
          refine r_pure (b_fieldAddrP fi146_0 rfl) rfl rfl ?_
          refine r_pure (a_loadNp Tryz.underlying52 rfl sz52 (by first | omega | (simp; done) | (simp; omega)) (rfl)) rfl rfl ?_
          refine r_callV (fun n => 81 + 1000 * n) (hB) rfl rfl Tryz.func142 rfl rfl (by first | rfl | simp [AV.noSl, AV.noSlL, AObj.noSl, PV.isV, bs_noSl]) (by first | rfl | simp [AV.noSl, AV.noSlL, AObj.noSl, PV.isV, bs_noSl]) rfl rfl rfl (by first | exact trivial | exact ⟨rfl, trivial⟩ | exact ⟨rfl, rfl, trivial⟩) rfl rfl rfl ?_
          refine r_pure a_not rfl rfl ?_
          refine r_pure a_pickF rfl rfl ?_
          refine arun_nil ⟨by kernel_rfl, ?_⟩
          refine thn_n ?_
          refine awp_cond _ rfl (fun h => ?_) (fun h => ?_)
          · cases h
          have hml : more.length + 1 ≤ (y :: mine').length := by
            rw [gl, List.length_append, TR.list_nd]; simp only [List.length_cons]; omega
          have hmore : ∀ z ∈ more, z.OK := fun z hz => hmok z (by rw [gl]; exact List.mem_append.2 (.inr hz))
          cases hbit : bitAt q p.length with
          | true =>
            rw [show bitN q p.length = 1 by unfold bitN; rw [hbit]; rfl] at hS
            rw [hbit, if_pos rfl] at hmK
            refine awp_skip (awp_seq ?_)
            refine awp_draw 4 (by kernel_rfl) ?_
            refine r_pure (a_move (r := .ref _ _)) rfl rfl ?_
            refine r_pure a_nilRef rfl rfl ?_
            refine fA fi146_0 rfl rfl ?_
            refine lN Tryz.underlying52 rfl sz52 rfl rfl ⟨rfl, trivial⟩ ?_
            refine mP rfl rfl ?_
            refine r_pure a_nilPt rfl rfl ?_
            refine r_pure (b_fieldAddrP fi146_0 rfl) rfl rfl ?_
            refine r_pure (a_loadNp Tryz.underlying52 rfl sz52 (by first | omega | (simp; done) | (simp; omega)) (rfl)) rfl rfl ?_
            refine r_callV (fun n => 92 + 1000 * n) (hS) rfl rfl Tryz.func99 rfl rfl (by first | rfl | simp [AV.noSl, AV.noSlL, AObj.noSl, PV.isV, bs_noSl]) (by first | rfl | simp [AV.noSl, AV.noSlL, AObj.noSl, PV.isV, bs_noSl]) rfl rfl rfl (by first | exact trivial | exact ⟨rfl, trivial⟩ | exact ⟨rfl, rfl, trivial⟩) rfl rfl rfl ?_
            refine aP rfl rfl ?_
            refine arun_nil ⟨by kernel_rfl, ?_⟩
            refine awp_seq (awp_seq ?_)
            refine tx ?_
            refine r_pure (a_move (r := .ref _ _)) rfl rfl ?_
            refine mP rfl rfl ?_
            refine r_pure a_nilRef rfl rfl ?_
            refine fA fi146_2 rfl rfl ?_
            refine r_pure (a_indexAddrA Tryz.underlying144 sz100 (by omega) (by omega) (by first | (simp only [Int.toNat_natCast, Nat.mul_one, Nat.zero_add]; rfl) | rfl)) rfl rfl ?_
            refine l1 Tryz.underlying100 rfl rfl rfl ⟨rfl, trivial⟩ ?_
            refine r_pure (a_pneTR Tryz.underlying100) rfl rfl ?_
            refine mP rfl rfl ?_
            refine mb2 _ rfl rfl (fun hb => (a_move (r := .ref _ _))) (fun _ => trivial) ?_
            refine mb2 _ rfl rfl (fun hb => a_nilRef) (fun _ => trivial) ?_
            refine mb2 _ rfl rfl (fun hb => (b_fieldAddr fi146_2 rfl)) (fun _ => trivial) ?_
            refine mb2 _ rfl rfl (fun hb => (a_indexAddrA Tryz.underlying144 sz100 (by omega) (by omega) (by first | (simp only [Int.toNat_natCast, Nat.mul_one, Nat.zero_add]; rfl) | rfl))) (fun _ => trivial) ?_
            refine mb2 _ rfl rfl (fun hb => (a_load1 Tryz.underlying100 rfl (by first | rfl | assumption))) (fun _ => ⟨rfl, trivial⟩) ?_
            refine mb2 _ rfl rfl (fun hb => a_pneTR Tryz.underlying100) (fun _ => trivial) ?_
            refine r_pure (a_or (by first | exact id | (simp; done) | grind)) rfl rfl ?_
            refine arun_nil ?_
            refine thn_n ?_
            refine awp_cond _ rfl (fun h => ?_) (fun h => ?_)
            · have hk1 : k1.isNil = false := by simpa using h
              rw [if_neg (by simp [hk1])] at hmK
              subst hmK
              refine awp_seq ?_
              refine tx ?_
              refine aP rfl rfl ?_
              refine aP rfl rfl ?_
              refine aP rfl rfl ?_
              refine arun_nil ?_
              refine awp_ret (thn_r (inb_r (thn_r (inb_r (thn_r ?_)))))
              refine fT (fun o => o) (.tmp _ _ _ _ rfl (.tmp _ _ _ _ rfl (.tmp _ _ _ _ rfl .nil))) ?_ ?_
              · exact rfl
              · exact trivial
            · have hk1 : k1.isNil = true := by simpa using h
              rw [if_pos hk1] at hmK
              refine awp_skip (thn_n ?_)
              refine tx ?_
              refine r_pure (a_move (r := .ref _ _)) rfl rfl ?_
              refine mP rfl rfl ?_
              refine mP rfl rfl ?_
              refine mP rfl rfl ?_
              refine r_pure a_nilRef rfl rfl ?_
              refine fA fi146_2 rfl rfl ?_
              refine r_pure (a_indexAddrA Tryz.underlying144 sz100 (by omega) (by omega) (by first | (simp only [Int.toNat_natCast, Nat.mul_one, Nat.zero_add]; rfl) | rfl)) rfl rfl ?_
              refine r_run (a_store (Y := .p _) sz100 rfl (by first | exact Nat.eq_of_beq_eq_true rfl | (simp only [AV.cells, List.length_map]; first | assumption | omega)) (by first | exact Nat.le_of_ble_eq_true rfl | omega | (simp only [AV.cells, List.length_map]; omega)) (by first | (simp only [setR, AV.cells, List.take_succ_cons, List.take_zero, List.drop_succ_cons, List.drop_zero, List.drop_nil, List.take_nil, List.nil_append, List.cons_append, List.append_nil, List.length_cons, List.length_nil, Nat.reduceAdd, Nat.zero_add, Nat.add_zero]; rfl) | rfl)) rfl rfl ⟨rfl, trivial⟩ ?_
              refine aP rfl rfl ?_
              refine arun_nil ?_
              refine inb_n (thn_n ?_)
              refine ⟨m, by omega, _, re_of id _ _ ?_ ?_ rfl, k0, .nd q o' ka kb, more, by omega, by omega, hmore, hmK, rfl⟩
              · exact ⟨⟨rfl, rfl⟩, ⟨rfl, rfl⟩, ⟨rfl, rfl⟩, trivial⟩
              · exact ⟨⟨rfl, rfl⟩, trivial⟩
          | false =>
            rw [show bitN q p.length = 0 by unfold bitN; rw [hbit]; rfl] at hS
            rw [hbit, if_neg (by simp)] at hmK
            refine awp_skip (awp_seq ?_)
            refine awp_draw 4 (by kernel_rfl) ?_
            refine r_pure (a_move (r := .ref _ _)) rfl rfl ?_
            refine r_pure a_nilRef rfl rfl ?_
            refine fA fi146_0 rfl rfl ?_
            refine lN Tryz.underlying52 rfl sz52 rfl rfl ⟨rfl, trivial⟩ ?_
            refine mP rfl rfl ?_
            refine r_pure a_nilPt rfl rfl ?_
            refine r_pure (b_fieldAddrP fi146_0 rfl) rfl rfl ?_
            refine r_pure (a_loadNp Tryz.underlying52 rfl sz52 (by first | omega | (simp; done) | (simp; omega)) (rfl)) rfl rfl ?_
            refine r_callV (fun n => 92 + 1000 * n) (hS) rfl rfl Tryz.func99 rfl rfl (by first | rfl | simp [AV.noSl, AV.noSlL, AObj.noSl, PV.isV, bs_noSl]) (by first | rfl | simp [AV.noSl, AV.noSlL, AObj.noSl, PV.isV, bs_noSl]) rfl rfl rfl (by first | exact trivial | exact ⟨rfl, trivial⟩ | exact ⟨rfl, rfl, trivial⟩) rfl rfl rfl ?_
            refine aP rfl rfl ?_
            refine arun_nil ⟨by kernel_rfl, ?_⟩
            refine awp_seq (awp_seq ?_)
            refine tx ?_
            refine r_pure (a_move (r := .ref _ _)) rfl rfl ?_
            refine mP rfl rfl ?_
            refine r_pure a_nilRef rfl rfl ?_
            refine fA fi146_2 rfl rfl ?_
            refine r_pure (a_indexAddrA Tryz.underlying144 sz100 (by omega) (by omega) (by first | (simp only [Int.toNat_natCast, Nat.mul_one, Nat.zero_add]; rfl) | rfl)) rfl rfl ?_
            refine l1 Tryz.underlying100 rfl rfl rfl ⟨rfl, trivial⟩ ?_
            refine r_pure (a_pneTR Tryz.underlying100) rfl rfl ?_
            refine mP rfl rfl ?_
            refine mb2 _ rfl rfl (fun hb => (a_move (r := .ref _ _))) (fun _ => trivial) ?_
            refine mb2 _ rfl rfl (fun hb => a_nilRef) (fun _ => trivial) ?_
            refine mb2 _ rfl rfl (fun hb => (b_fieldAddr fi146_2 rfl)) (fun _ => trivial) ?_
            refine mb2 _ rfl rfl (fun hb => (a_indexAddrA Tryz.underlying144 sz100 (by omega) (by omega) (by first | (simp only [Int.toNat_natCast, Nat.mul_one, Nat.zero_add]; rfl) | rfl))) (fun _ => trivial) ?_
            refine mb2 _ rfl rfl (fun hb => (a_load1 Tryz.underlying100 rfl (by first | rfl | assumption))) (fun _ => ⟨rfl, trivial⟩) ?_
            refine mb2 _ rfl rfl (fun hb => a_pneTR Tryz.underlying100) (fun _ => trivial) ?_
            refine r_pure (a_or (by first | exact id | (simp; done) | grind)) rfl rfl ?_
            refine arun_nil ?_
            refine thn_n ?_
            refine awp_cond _ rfl (fun h => ?_) (fun h => ?_)
            · have hk1 : ¬ (k0.isNil = true ∧ k1.isNil = true) := by
                intro hh
                simp [hh.1, hh.2] at h
              rw [if_neg hk1] at hmK
              subst hmK
              refine awp_seq ?_
              refine tx ?_
              refine aP rfl rfl ?_
              refine aP rfl rfl ?_
              refine aP rfl rfl ?_
              refine arun_nil ?_
              refine awp_ret (thn_r (inb_r (thn_r (inb_r (thn_r ?_)))))
              refine fT (fun o => o) (.tmp _ _ _ _ rfl (.tmp _ _ _ _ rfl (.tmp _ _ _ _ rfl .nil))) ?_ ?_
              · exact rfl
              · exact trivial
            · have hk1 : k0.isNil = true ∧ k1.isNil = true := by simpa using h
              rw [if_pos hk1] at hmK
              refine awp_skip (thn_n ?_)
              refine tx ?_
              refine r_pure (a_move (r := .ref _ _)) rfl rfl ?_
              refine mP rfl rfl ?_
              refine mP rfl rfl ?_
              refine mP rfl rfl ?_
              refine r_pure a_nilRef rfl rfl ?_
              refine fA fi146_2 rfl rfl ?_
              refine r_pure (a_indexAddrA Tryz.underlying144 sz100 (by omega) (by omega) (by first | (simp only [Int.toNat_natCast, Nat.mul_one, Nat.zero_add]; rfl) | rfl)) rfl rfl ?_
              refine r_run (a_store (Y := .p _) sz100 rfl (by first | exact Nat.eq_of_beq_eq_true rfl | (simp only [AV.cells, List.length_map]; first | assumption | omega)) (by first | exact Nat.le_of_ble_eq_true rfl | omega | (simp only [AV.cells, List.length_map]; omega)) (by first | (simp only [setR, AV.cells, List.take_succ_cons, List.take_zero, List.drop_succ_cons, List.drop_zero, List.drop_nil, List.take_nil, List.nil_append, List.cons_append, List.append_nil, List.length_cons, List.length_nil, Nat.reduceAdd, Nat.zero_add, Nat.add_zero]; rfl) | rfl)) rfl rfl ⟨rfl, trivial⟩ ?_
              refine aP rfl rfl ?_
              refine arun_nil ?_
              refine inb_n (thn_n ?_)
              refine ⟨m, by omega, _, re_of id _ _ ?_ ?_ rfl, .nd q o' ka kb, k1, more, by omega, by omega, hmore, hmK, rfl⟩
              · exact ⟨⟨rfl, rfl⟩, ⟨rfl, rfl⟩, ⟨rfl, rfl⟩, trivial⟩
              · exact ⟨⟨rfl, rfl⟩, trivial⟩
    have hnil : mine = [] := by
      cases mine with
      | nil => rfl
      | cons y m' => simp at h
    clear h
    subst hnil
    rw [kidsF_end] at hmK
    subst hmK
    refine awp_exit (awp_seq (awp_seq ?_))
    refine tx ?_
    refine r_pure (a_move (r := .ref _ _)) rfl rfl ?_
    refine r_pure a_nilRef rfl rfl ?_
    refine fA fi146_1 rfl rfl ?_
    refine l1 Tryz.underlying9 rfl rfl rfl ⟨rfl, trivial⟩ ?_
    refine r_pure a_seql rfl rfl ?_
    refine mP rfl rfl ?_
    refine mb2 _ rfl rfl (fun hb => (a_move (r := .ref _ _))) (fun _ => trivial) ?_
    refine mb2 _ rfl rfl (fun hb => a_nilRef) (fun _ => trivial) ?_
    refine mb2 _ rfl rfl (fun hb => (b_fieldAddr fi146_2 rfl)) (fun _ => trivial) ?_
    refine mb2 _ rfl rfl (fun hb => (a_indexAddrA Tryz.underlying144 sz100 (by omega) (by omega) (by first | (simp only [Int.toNat_natCast, Nat.mul_one, Nat.zero_add]; rfl) | rfl))) (fun _ => trivial) ?_
    refine mb2 _ rfl rfl (fun hb => (a_load1 Tryz.underlying100 rfl (by first | rfl | assumption))) (fun _ => ⟨rfl, trivial⟩) ?_
    refine mb2 _ rfl rfl (fun hb => a_peqTR Tryz.underlying100) (fun _ => trivial) ?_
    refine mb2 _ rfl rfl (fun hb => (a_move (r := .p _))) (fun _ => trivial) ?_
    refine mb2 _ rfl rfl (fun hb => (a_move (r := .ref _ _))) (fun _ => trivial) ?_
    refine mb2 _ rfl rfl (fun hb => a_nilRef) (fun _ => trivial) ?_
    refine mb2 _ rfl rfl (fun hb => (b_fieldAddr fi146_2 rfl)) (fun _ => trivial) ?_
    refine mb2 _ rfl rfl (fun hb => (a_indexAddrA Tryz.underlying144 sz100 (by omega) (by omega) (by first | (simp only [Int.toNat_natCast, Nat.mul_one, Nat.zero_add]; rfl) | rfl))) (fun _ => trivial) ?_
    refine mb2 _ rfl rfl (fun hb => (a_load1 Tryz.underlying100 rfl (by first | rfl | assumption))) (fun _ => ⟨rfl, trivial⟩) ?_
    refine mb2 _ rfl rfl (fun hb => a_peqTR Tryz.underlying100) (fun _ => trivial) ?_
    refine r_mb3 _ rfl rfl (.mb _ _ _ _ (by first | exact id | simp_all) (.keep _ _ _ (.keep _ _ _ .nil))) (fun hb => (a_or (by first | exact id | (simp_all; done) | grind))) (fun _ => trivial) ?_
    refine r_pure (a_and (by first | exact id | (simp; done) | grind)) rfl rfl ?_
    refine arun_nil ?_
    refine thn_n ?_
    refine awp_cond _ rfl (fun h => ?_) (fun h => ?_)
    · have hc : o = noOwn ∧ (k0.isNil = true ∨ k1.isNil = true) := by simpa using h
      rw [growTop_no hc]
      refine awp_seq ?_
      refine tx ?_
      refine aP rfl rfl ?_
      refine aP rfl rfl ?_
      refine aP rfl rfl ?_
      refine arun_nil ?_
      refine awp_ret (thn_r ?_)
      refine fT (fun o => o) (.tmp _ _ _ _ rfl (.tmp _ _ _ _ rfl (.tmp _ _ _ _ rfl .nil))) ?_ ?_
      · exact rfl
      · exact trivial
    · have hc : ¬ (o = noOwn ∧ (k0.isNil = true ∨ k1.isNil = true)) := by
        intro hh
        simp [hh.1] at h
        rcases hh.2 with h' | h' <;> simp [h'] at h
      rw [growTop_yes hc]
      refine awp_reO (reo_fz (cs := [.v (.int .u32 (addrK p)), .v (.int .i64 p.length), .v (.string o), trP k0, trP k1]) 48 rfl rfl) ?_
      refine awp_skip (awp_seq ?_)
      refine tx ?_
      refine mP rfl rfl ?_
      refine mP rfl rfl ?_
      refine aP rfl rfl ?_
      refine aP rfl rfl ?_
      refine aP rfl rfl ?_
      refine arun_nil ?_
      refine awp_ret ?_
      refine fT (fun o => o) (.tmp _ _ _ _ rfl (.tmp _ _ _ _ rfl (.tmp _ _ _ _ rfl .nil))) ?_ ?_
      · exact rfl
      · exact trivial
end Go.Proofs.YtgpleldhddpcgaaGreatDoor
