/- table.Right, the reference's StateFault, over data. -/
import Derived.Test.YtgpleldhddpcgaaGreatDoorSBt1
import Derived.Test.YtgpleldhddpcgaaGreatDoorSHs
namespace Go.Proofs.YtgpleldhddpcgaaGreatDoor
open Go.RowKit Go.Sort
set_option linter.unusedVariables false
set_option linter.unusedSimpArgs false
set_option maxRecDepth 100000
/-- a packet that waits -/
structure PQ where
 a : Int
 b : Int
 xs : List Int
def PQ.pv (p : PQ) : List PV := [.v (.int .u32 p.a), .v (.int .u32 p.b), .sl p.xs.length 1 (bs p.xs)]
theorem pchk_s (a b : Int) (n : Nat) (cs : List PV) (hn : n ≤ 140737488355328) : Fn Tryz.prog 127 [.agg [.p (.v (.int .u32 a)), .p (.v (.int .u32 b)), .p (.sl n 1 cs)]] (.p (.v (.int .i64 (if 200 < n then 1 else 0)))) [] := by
 refine zap Tryz.func127 rfl (Nat.le_of_ble_eq_true rfl) fun w0 A => ?_
 refine zaa ?_
 refine tx ?_
 refine zal (za2 (X := .agg _) 1 rfl) rfl rfl ⟨rfl, trivial⟩ ?_
 refine yA ?_
 refine zab ?_
 refine zaa (zaa ?_)
 refine tx ?_
 refine yF zd2 ?_
 refine yL Tryz.underlying89 ?_
 refine yP (zaC Tryz.underlying89) ?_
 refine yP za5 ?_
 refine zab ?_
 refine zae ?_
 refine zah _ rfl (fun h => ?_) (fun h => ?_)
 ·have h1 : 200 < n := by simp at h; omega
  rw [if_pos h1]
  refine zaa ?_
  refine tx ?_
  refine yA ?_
  refine zab ?_
  refine zaf (zam ?_)
  refine yT ?_ ?_
  ·exact rfl
  ·exact trivial
 ·have h1 : ¬ 200 < n := by simp at h; omega
  rw [if_neg h1]
  refine zad (zaa ?_)
  refine tx ?_
  refine yA ?_
  refine zab ?_
  refine zaf ?_
  refine yT ?_ ?_
  ·exact rfl
  ·exact trivial
def zcX (a b c : KY) : List AV := a.cells ++ b.cells ++ c.cells
def zfY (a b c : KY) : List PV := a.pv ++ b.pv ++ c.pv
def zg2 (a b c : KY) (i : Nat) : KY := if i = 0 then a else if i = 1 then b else c
theorem three_at (a b c : KY) (i : Nat) (h : i < 3) : ((zcX a b c).drop (i * 11)).take 11 = (zg2 a b c i).cells := by
 match i, h with
 | 0, _ => rfl
 | 1, _ => rfl
 | 2, _ => rfl
theorem three_atV (a b c : KY) (i : Nat) (h : i < 3) : ((zfY a b c).drop (i * 11)).take 11 = (zg2 a b c i).pv := by
 match i, h with
 | 0, _ => rfl
 | 1, _ => rfl
 | 2, _ => rfl
theorem three_ok {a b c : KY} (ha : a.OK) (hb : b.OK) (hc : c.OK) (i : Nat) : (zg2 a b c i).OK := by
 unfold zg2
 split
 ·exact ha
 ·split
  ·exact hb
  ·exact hc
/-- the state of a peer -/
structure ST where
 key : ByteArray
 ep : ByteArray
 a : KY
 b : KY
 c : KY
 h : HS
 q : List PQ
def HS0 : HS := ⟨false, 0, ⟨#[]⟩, 0, 0⟩
def stC (key ep : ByteArray) (a b c : KY) (h : HS) (n : Nat) (q : List PV) : List AV := [.p (.v (.string key)), .p (.v (.string ep))] ++ zcX a b c ++ h.cells ++ [.p (.sl n 3 q)]
def ST.cells (s : ST) : List AV := stC s.key s.ep s.a s.b s.c s.h s.q.length (s.q.flatMap PQ.pv)
def ST.pv (s : ST) : List PV := [.v (.string s.key), .v (.string s.ep)] ++ zfY s.a s.b s.c ++ s.h.pv ++ [.sl s.q.length 3 (s.q.flatMap PQ.pv)]
structure ST.OK (s : ST) : Prop where
 ep : s.ep.size < 4294967281
 a : s.a.OK
 b : s.b.OK
 c : s.c.OK
 q : s.q.length ≤ 1048576
 qx : ∀ p ∈ s.q, p.xs.length ≤ 1048576
def hsE (h : HS) : Int :=
 if h.lv = false then (if h.mine = 0 ∧ h.nc = ⟨#[]⟩ ∧ h.b = 0 ∧ h.s = 0 then 0 else 14) else if h.nc.size ≠ 16 then 1 else if hexE h.nc ≠ 0 then hexE h.nc
 else if h.mine < 1 ∨ 4294967295 < h.mine ∨ h.b < 0 ∨ h.s < h.b ∨ 1099511627776 < h.s then 4 else 0
noncomputable def ksE (a b c : KY) : Int := fnz (fun i => kE (zg2 a b c i)) 3
def pqG (l : List PQ) (i : Nat) : PQ := l.getD i ⟨0, 0, []⟩
def pqE (l : List PQ) : Int := fnz (fun i => if 200 < (pqG l i).xs.length then 1 else 0) l.length
noncomputable def stE (s : ST) : Int :=
 if keyE s.key ≠ 0 then keyE s.key else if ksE s.a s.b s.c ≠ 0 then ksE s.a s.b s.c else if hsE s.h ≠ 0 then hsE s.h
 else if s.ep ≠ ⟨#[]⟩ ∧ enE s.ep ≠ 0 then enE s.ep else if 3 < s.q.length then 1 else pqE s.q
theorem eqHand (m : Int) (n : ByteArray) (b s : Int) : eqL [.bool false, .int .i64 m, .string n, .int .i64 b, .int .i64 s] [.bool false, .int .i64 0, .string ⟨#[]⟩, .int .i64 0, .int .i64 0] = decide (m = 0 ∧ n = ⟨#[]⟩ ∧ b = 0 ∧ s = 0) := by
 rw [Bool.eq_iff_iff, za7]
 simp
set_option maxHeartbeats 4000000 in
theorem tright_s (s : ST) (ok : s.OK) : Fn Tryz.prog 79 [.agg s.cells] (.p (.v (.int .i64 (stE s)))) [] := by
 obtain ⟨key, ep, a, b, c, h0, q⟩ := s
 obtain ⟨hep, oa, ob, oc, hq, hqx⟩ := ok
 dsimp only at hep oa ob oc hq hqx
 obtain ⟨E, hE⟩ : ∃ E, stE ⟨key, ep, a, b, c, h0, q⟩ = E := ⟨_, rfl⟩
 rw [hE]
 unfold stE at hE
 dsimp only at hE
 have hK := zb0 key
 have hEn := end_s ep hep
 obtain ⟨ea, eb, hen⟩ := enR_e ep
 rw [hen] at hEn
 clear hen
 have h3a := three_at a b c
 have h3o := three_ok oa ob oc
 have hks : ksE a b c = fnz (fun i => kE (zg2 a b c i)) 3 := rfl
 generalize hT : zg2 a b c = T at *
 show Fn Tryz.prog _ [.agg (stC key ep a b c h0 q.length (q.flatMap PQ.pv))] _ _
 generalize keyE key = k1 at *
 generalize enE ep = e1 at *
 refine zap Tryz.func79 rfl (Nat.le_of_ble_eq_true rfl) fun w0 A => ?_
 refine zaa ?_
 refine tx ?_
 refine zal (za2 (X := .agg _) 1 rfl) rfl rfl ⟨rfl, trivial⟩ ?_
 refine yA ?_
 refine zab ?_
 refine zaa (zaa ?_)
 refine tx ?_
 refine yF zc4 ?_
 refine yL Tryz.underlying9 ?_
 refine yV (fun n => 18 + 1000 * n) (hK) Tryz.func53 ?_
 refine yA ?_
 refine zab ?_
 refine zaa ?_
 refine tx ?_
 refine yM ?_
 refine yP za8 ?_
 refine zab ?_
 refine zae ?_
 refine zah _ rfl (fun h => ?_) (fun h => ?_)
 ·have h1 : k1 ≠ 0 := by simpa using h
  rw [if_pos h1] at hE
  subst hE
  refine zaa ?_
  refine tx ?_
  refine yM ?_
  refine yA ?_
  refine zab ?_
  refine zaf (zam ?_)
  refine yT ?_ ?_
  ·exact rfl
  ·exact trivial
 have h1 : k1 = 0 := by simpa using h
 clear h
 rw [if_neg (by simp [h1])] at hE
 refine zad (zaa (zaa ?_))
 refine tx ?_
 refine yF zbI ?_
 refine yF fi76_0 ?_
 refine zal (zaL Tryz.underlying74 rfl sz74 (by first | exact Nat.le_of_ble_eq_true rfl | omega | (simp only [AV.cells, List.length_map]; omega)) (show _ = a.cells from rfl)) rfl rfl ⟨rfl, trivial⟩ ?_
 refine yF zbI ?_
 refine yF fi76_1 ?_
 refine zal (zaL Tryz.underlying74 rfl sz74 (by first | exact Nat.le_of_ble_eq_true rfl | omega | (simp only [AV.cells, List.length_map]; omega)) (show _ = b.cells from rfl)) rfl rfl ⟨rfl, trivial⟩ ?_
 refine yF zbI ?_
 refine yF fi76_2 ?_
 refine zal (zaL Tryz.underlying74 rfl sz74 (by first | exact Nat.le_of_ble_eq_true rfl | omega | (simp only [AV.cells, List.length_map]; omega)) (show _ = c.cells from rfl)) rfl rfl ⟨rfl, trivial⟩ ?_
 refine zac (xs := [.agg a.cells, .agg b.cells, .agg c.cells]) (zfO (es := (a.cells ++ b.cells ++ c.cells)) Tryz.underlying168 zr168 rfl sz74 (by kernel_rfl)) (by first | rfl | kernel_rfl) rfl ?_
 refine yM ?_
 refine zab ?_
 refine zaj ?_
 refine zaE (fun m st => ∃ i : Nat, m + i = 3 ∧ (∀ j, j < i → kE (T j) = 0) ∧ st = St.of [(1, .ref 1 0), (31, .agg (zcX a b c)), (32, .p (.v (.int .i64 i)))] [(1, .box 81 (stC key ep a b c h0 q.length (q.flatMap PQ.pv)))]) 3 ?_ ?_
 ·refine ⟨_, zaJ id _ _ ?_ ?_ rfl, 0, by omega, by omega, rfl⟩
  ·(repeat (first | exact trivial | (refine ⟨⟨(by first | rfl | (simp; done) | (simp; omega)), rfl⟩, ?_⟩)))
  ·exact ⟨⟨rfl, rfl⟩, trivial⟩
 rintro m st ⟨i, hi, hf, rfl⟩
 refine zaa ?_
 refine tx ?_
 refine yP zaX ?_
 refine zab ?_
 refine zaa ?_
 refine zah _ rfl (fun h => ?_) (fun h => ?_)
 ·have hlt : i < 3 := by simp at h; omega
  clear h
  have hix := h3a i hlt
  have hC := kcheck_s (T i) (h3o i)
  have hhit := @zb9 (fun i => kE (T i)) i 3 hf hlt
  generalize hTx : T i = x at *
  refine zad (zaa (zaj (zaa ?_)))
  refine tx ?_
  refine zac (a_indexN Tryz.underlying168 sz74 Tryz.underlying74 rfl (by omega) (by omega) (show _ = x.cells by rw [Int.toNat_natCast]; exact hix)) rfl rfl ?_
  refine zal (zaU 5 zr74 rfl) rfl rfl ⟨rfl, trivial⟩ ?_
  refine zal (zaA (Y := .agg x.cells) sz74 rfl rfl (Nat.eq_of_beq_eq_true rfl)) rfl rfl ⟨rfl, trivial⟩ ?_
  refine zab ?_
  refine zaa ?_
  refine tx ?_
  refine zal (zaL Tryz.underlying74 rfl sz74 (by first | exact Nat.le_of_ble_eq_true rfl | omega | (simp only [AV.cells, List.length_map]; omega)) (show _ = x.cells from rfl)) rfl rfl ⟨rfl, trivial⟩ ?_
  refine cS (fun n => 36 + 1000 * n) (hC) Tryz.func126 ?_
  refine yA ?_
  refine zab ?_
  refine zaa ?_
  refine tx ?_
  refine yM ?_
  refine yP za8 ?_
  refine zab ?_
  refine zae ?_
  refine zah _ rfl (fun h => ?_) (fun h => ?_)
  ·have hne : kE x ≠ 0 := by simpa using h
   rw [hks, hhit hne, if_pos hne] at hE
   subst hE
   refine zaa ?_
   refine tx ?_
   refine yM ?_
   refine yA ?_
   refine zab ?_
   refine zaf (zaK (zam (zam (zaK (zam ?_)))))
   refine yT ?_ ?_
   ·exact rfl
   ·exact trivial
  have he : kE x = 0 := by simpa using h
  refine zad (za3 (zae ?_))
  refine tx ?_
  refine zac (za4 (by first | exact IntWalk.i64_in _ (by omega) | rfl)) rfl rfl ?_
  refine yM ?_
  refine zab ?_
  refine zae ?_
  refine ⟨m - 1, by omega, _, zaJ id _ _ ?_ ?_ rfl, i + 1, by omega, fun j hj => ?_, rfl⟩
  ·(repeat (first | exact trivial | (refine ⟨⟨(by first | rfl | (simp; done) | (simp; omega)), rfl⟩, ?_⟩)))
  ·exact ⟨⟨rfl, rfl⟩, trivial⟩
  ·by_cases ej : j = i
   ·rw [ej, hTx]; exact he
   ·exact hf j (by omega)
 have hge : i = 3 := by simp at h; omega
 clear h
 subst hge
 rw [hks, zcB hf, if_neg (by simp)] at hE
 clear hf h3a h3o hks hT
 obtain ⟨lv, mine, nc, hb, hs⟩ := h0
 unfold hsE at hE
 dsimp only at hE
 have hN := zfl nc
 refine zaG (zaa ?_)
 refine tx ?_
 refine yF zb1 ?_
 refine zal (zaL Tryz.underlying78 rfl sz78 (by first | exact Nat.le_of_ble_eq_true rfl | omega | (simp only [AV.cells, List.length_map]; omega)) (show _ = [.p (.v (.bool lv)), .p (.v (.int .i64 mine)), .p (.v (.string nc)), .p (.v (.int .i64 hb)), .p (.v (.int .i64 hs))] from rfl)) rfl rfl ⟨rfl, trivial⟩ ?_
 refine zal (zaU 7 zr78 rfl) rfl rfl ⟨rfl, trivial⟩ ?_
 refine zal (zaA (Y := .agg [.p (.v (.bool lv)), .p (.v (.int .i64 mine)), .p (.v (.string nc)), .p (.v (.int .i64 hb)), .p (.v (.int .i64 hs))]) sz78 rfl rfl (Nat.eq_of_beq_eq_true rfl)) rfl rfl ⟨rfl, trivial⟩ ?_
 refine zab ?_
 cases lv with
 | false =>
  rw [if_pos rfl] at hE
  by_cases hz : mine = 0 ∧ nc = ⟨#[]⟩ ∧ hb = 0 ∧ hs = 0
  ·rw [if_pos hz, if_neg (by simp)] at hE
   refine zaa (zaa ?_)
   refine tx ?_
   refine yF zdK ?_
   refine yL Tryz.underlying4 ?_
   refine yP za0 ?_
   refine yM ?_
   refine zal (zaL Tryz.underlying78 rfl sz78 (by first | exact Nat.le_of_ble_eq_true rfl | omega | (simp only [AV.cells, List.length_map]; omega)) (show _ = [.p (.v (.bool false)), .p (.v (.int .i64 mine)), .p (.v (.string nc)), .p (.v (.int .i64 hb)), .p (.v (.int .i64 hs))] from rfl)) rfl rfl ⟨rfl, trivial⟩ ?_
   refine yP (zaR pl78 zr78 rfl rfl) ?_
   refine zac (zaV Tryz.underlying78 rfl rfl (by kernel_rfl) (by kernel_rfl) (by kernel_rfl) (c := false) (by rw [eqHand]; simp [hz])) rfl rfl ?_
   refine yP zak ?_
   refine zab ?_
   refine zae ?_
   refine zan rfl ?_
   refine zad (zaa (zaa ?_))
   refine tx ?_
   refine yF zdK ?_
   refine yL Tryz.underlying4 ?_
   refine zab ?_
   refine zae ?_
   refine zan rfl ?_
   by_cases h4 : ep ≠ ⟨#[]⟩ ∧ e1 ≠ 0
   ·rw [if_pos h4] at hE
    subst hE
    refine zad (zaa (zaa ?_))
    refine tx ?_
    refine yF zci ?_
    refine yL Tryz.underlying9 ?_
    refine yP zb2 ?_
    refine zab ?_
    refine zae ?_
    refine zah _ rfl (fun h => ?_) (fun h => ?_)
    ·refine zaa ?_
     refine tx ?_
     refine yF zci ?_
     refine yL Tryz.underlying9 ?_
     refine yV (fun n => 97 + 1000 * n) (hEn) Tryz.func93 ?_
     refine yP (zaq (r := .tup _)) ?_
     refine yP (zar rfl) ?_
     refine yP (zar rfl) ?_
     refine yP (zar rfl) ?_
     refine yA ?_
     refine yA ?_
     refine yA ?_
     refine zab ?_
     refine zaa ?_
     refine tx ?_
     refine yM ?_
     refine yP za8 ?_
     refine zab ?_
     refine zae ?_
     refine zah _ rfl (fun h => ?_) (fun h => ?_)
     ·refine zaa ?_
      refine tx ?_
      refine yM ?_
      refine yA ?_
      refine zab ?_
      refine zaf (zam ?_)
      refine yT ?_ ?_
      ·exact rfl
      ·exact trivial
     ·exact absurd (by simpa using h) h4.2
    ·exact absurd (by simpa using h) h4.1
   rw [if_neg h4] at hE
   refine zad (zaa (zaa ?_))
   refine tx ?_
   refine yF zci ?_
   refine yL Tryz.underlying9 ?_
   refine yP zb2 ?_
   refine zab ?_
   refine zae ?_
   refine zcU (St.of [(1, .ref 1 0)] [(1, .box 81 (stC key ep a b c ⟨false, mine, nc, hb, hs⟩ q.length (q.flatMap PQ.pv)))]) ?_ ?_
   ·skip
    refine zah _ rfl (fun h => ?_) (fun h => ?_)
    ·refine zaa ?_
     refine tx ?_
     refine yF zci ?_
     refine yL Tryz.underlying9 ?_
     refine yV (fun n => 97 + 1000 * n) (hEn) Tryz.func93 ?_
     refine yP (zaq (r := .tup _)) ?_
     refine yP (zar rfl) ?_
     refine yP (zar rfl) ?_
     refine yP (zar rfl) ?_
     refine yA ?_
     refine yA ?_
     refine yA ?_
     refine zab ?_
     refine zaa ?_
     refine tx ?_
     refine yM ?_
     refine yP za8 ?_
     refine zab ?_
     refine zae ?_
     refine zah _ rfl (fun h => ?_) (fun h => ?_)
     ·exact absurd ⟨by simp_all, by simpa using h⟩ h4
     ·refine zad (zae ?_)
      exact zaJ id _ _ (by repeat (first | exact trivial | refine ⟨⟨rfl, rfl⟩, ?_⟩)) (by repeat (first | exact trivial | refine ⟨⟨rfl, rfl⟩, ?_⟩)) rfl
    ·refine zad (zae ?_)
     exact zaJ id _ _ (by repeat (first | exact trivial | refine ⟨⟨rfl, rfl⟩, ?_⟩)) (by repeat (first | exact trivial | refine ⟨⟨rfl, rfl⟩, ?_⟩)) rfl
   clear h4
   refine zaa (zaa ?_)
   refine tx ?_
   refine yF zcs ?_
   refine yL Tryz.underlying79 ?_
   refine yP (zaC Tryz.underlying79) ?_
   refine yP za5 ?_
   refine zab ?_
   refine zae ?_
   refine zah _ rfl (fun h => ?_) (fun h => ?_)
   ·have h5 : 3 < q.length := by simp at h; omega
    rw [if_pos h5] at hE
    subst hE
    refine zaa ?_
    refine tx ?_
    refine yA ?_
    refine zab ?_
    refine zaf (zam ?_)
    refine yT ?_ ?_
    ·exact rfl
    ·exact trivial
   have h5 : ¬ 3 < q.length := by simp at h; omega
   clear h
   rw [if_neg h5] at hE
   unfold pqE at hE
   obtain ⟨f, hF⟩ : ∃ f, (fun i => if 200 < (pqG q i).xs.length then 1 else 0 : Nat → Int) = f := ⟨_, rfl⟩
   rw [hF] at hE
   refine zad (zaa (zaa ?_))
   refine tx ?_
   refine yF zcs ?_
   refine yL Tryz.underlying79 ?_
   refine yP (zaC Tryz.underlying79) ?_
   refine yM ?_
   refine zab ?_
   refine zaj ?_
   refine zaE (fun m st => ∃ i : Nat, m + i = q.length ∧ (∀ j, j < i → f j = 0) ∧ st = St.of [(109, .p (.sl q.length 3 (q.flatMap PQ.pv))), (110, .p (.v (.int .i64 q.length))), (111, .p (.v (.int .i64 i)))] []) q.length ?_ ?_
   ·refine ⟨_, zaJ id _ _ ?_ ?_ rfl, 0, by omega, by omega, rfl⟩
    ·(repeat (first | exact trivial | (refine ⟨⟨(by first | rfl | (simp; done) | (simp; omega)), rfl⟩, ?_⟩)))
    ·trivial
   rintro m st ⟨i, hi, hf, rfl⟩
   refine zaa ?_
   refine tx ?_
   refine yP zaX ?_
   refine zab ?_
   refine zaa ?_
   refine zah _ rfl (fun h => ?_) (fun h => ?_)
   ·have hlt : i < q.length := by simp at h; omega
    clear h
    obtain ⟨p, hp⟩ : ∃ p, q[i]? = some p := ⟨q[i], List.getElem?_eq_getElem hlt⟩
    have hch := zaN (f := PQ.pv) (k := 3) (fun _ => rfl) hp
    have hle := zaP (f := PQ.pv) (k := 3) (fun _ => rfl) hlt
    have hpx := hqx p (List.mem_of_getElem? hp)
    have hhit := @zb9 f i q.length hf hlt
    have hfi : f i = if 200 < p.xs.length then 1 else 0 := by rw [← hF]; show (if 200 < (pqG q i).xs.length then (1 : Int) else 0) = _; rw [show pqG q i = p by unfold pqG; rw [List.getD_eq_getElem?_getD, hp]; rfl]
    obtain ⟨pa, pb, xs⟩ := p
    dsimp only at hpx hfi
    change _ = [PV.v (.int .u32 pa), .v (.int .u32 pb), .sl xs.length 1 (bs xs)] at hch
    have hC := pchk_s pa pb xs.length (bs xs) (by omega)
    generalize hL : q.flatMap PQ.pv = L at *
    generalize bs xs = X at *
    generalize xs.length = N at *
    refine zad (zaa (zaj (zaa ?_)))
    refine tx ?_
    refine zac (zao Tryz.underlying79 sz91 (by omega) (by omega) rfl) rfl rfl ?_
    refine zac (zaz Tryz.underlying91 rfl sz91 (by rw [List.length_drop]; omega) (hch)) rfl rfl ?_
    refine zal (zaU 14 zr91 rfl) rfl rfl ⟨rfl, trivial⟩ ?_
    refine zal (zaA (Y := .agg [.p (.v (.int .u32 pa)), .p (.v (.int .u32 pb)), .p (.sl N 1 X)]) sz91 rfl rfl (Nat.eq_of_beq_eq_true rfl)) rfl rfl ⟨rfl, trivial⟩ ?_
    refine zab ?_
    by_cases h6 : 200 < N
    ·rw [if_pos h6] at hC hfi
     rw [hhit (by rw [hfi]; decide), hfi] at hE
     subst hE
     refine zaa ?_
     refine tx ?_
     refine lN Tryz.underlying91 rfl sz91 rfl rfl ⟨rfl, trivial⟩ ?_
     refine cS (fun n => 116 + 1000 * n) (hC) Tryz.func127 ?_
     refine yA ?_
     refine zab ?_
     refine zaa ?_
     refine tx ?_
     refine yM ?_
     refine yP za8 ?_
     refine zab ?_
     refine zae ?_
     refine zaD rfl ?_
     refine zaa ?_
     refine tx ?_
     refine yM ?_
     refine yA ?_
     refine zab ?_
     refine zaf (zaK (zam (zam (zaK (zam ?_)))))
     refine yT ?_ ?_
     ·exact rfl
     ·exact trivial
    ·rw [if_neg h6] at hC
     refine zaa ?_
     refine tx ?_
     refine lN Tryz.underlying91 rfl sz91 rfl rfl ⟨rfl, trivial⟩ ?_
     refine cS (fun n => 116 + 1000 * n) (hC) Tryz.func127 ?_
     refine yA ?_
     refine zab ?_
     refine zaa ?_
     refine tx ?_
     refine yM ?_
     refine yP zea ?_
     refine zab ?_
     refine zae ?_
     refine zan rfl ?_
     refine zad (za3 (zae ?_))
     refine tx ?_
     refine zac (za4 (by first | exact IntWalk.i64_in _ (by omega) | rfl)) rfl rfl ?_
     refine yM ?_
     refine zab ?_
     refine zae ?_
     refine ⟨m - 1, by omega, _, zaJ id _ _ ?_ ?_ rfl, i + 1, by omega, fun j hj => ?_, rfl⟩
     ·(repeat (first | exact trivial | (refine ⟨⟨(by first | rfl | (simp; done) | (simp; omega)), rfl⟩, ?_⟩)))
     ·trivial
     ·by_cases ej : j = i
      ·rw [ej, hfi, if_neg h6]
      ·exact hf j (by omega)
   have hge : i = q.length := by simp at h; omega
   clear h
   subst hge
   rw [zcB hf] at hE
   subst hE
   refine zaG (zaa ?_)
   refine tx ?_
   refine yA ?_
   refine zab ?_
   refine zaf ?_
   refine yT ?_ ?_
   ·exact rfl
   ·exact trivial
  ·rw [if_neg hz, if_pos (by decide)] at hE
   subst hE
   refine zaa (zaa ?_)
   refine tx ?_
   refine yF zdK ?_
   refine yL Tryz.underlying4 ?_
   refine yP za0 ?_
   refine yM ?_
   refine zal (zaL Tryz.underlying78 rfl sz78 (by first | exact Nat.le_of_ble_eq_true rfl | omega | (simp only [AV.cells, List.length_map]; omega)) (show _ = [.p (.v (.bool false)), .p (.v (.int .i64 mine)), .p (.v (.string nc)), .p (.v (.int .i64 hb)), .p (.v (.int .i64 hs))] from rfl)) rfl rfl ⟨rfl, trivial⟩ ?_
   refine yP (zaR pl78 zr78 rfl rfl) ?_
   refine zac (zaV Tryz.underlying78 rfl rfl (by kernel_rfl) (by kernel_rfl) (by kernel_rfl) (c := true) (by rw [eqHand]; simp only [Bool.not_eq_true', decide_eq_false_iff_not]; exact hz)) rfl rfl ?_
   refine yP zak ?_
   refine zab ?_
   refine zae ?_
   refine zaD rfl ?_
   refine zaa ?_
   refine tx ?_
   refine yA ?_
   refine zab ?_
   refine zaf (zam ?_)
   refine yT ?_ ?_
   ·exact rfl
   ·exact trivial
 | true =>
  rw [if_neg (show ¬ true = false by decide)] at hE
  refine zaa (zaa ?_)
  refine tx ?_
  refine yF zdK ?_
  refine yL Tryz.underlying4 ?_
  refine yP za0 ?_
  refine yM ?_
  refine yS ?_
  refine yS ?_
  refine yS ?_
  refine yP zai ?_
  refine zab ?_
  refine zae ?_
  refine zan rfl ?_
  refine zad (zaa (zaa ?_))
  refine tx ?_
  refine yF zdK ?_
  refine yL Tryz.underlying4 ?_
  refine zab ?_
  refine zae ?_
  refine zaD rfl ?_
  refine zaa (zaa ?_)
  refine tx ?_
  refine yF zgo ?_
  refine yL Tryz.underlying9 ?_
  refine yP (zbF Tryz.underlying9) ?_
  refine yP za8 ?_
  refine zab ?_
  refine zae ?_
  refine zah _ rfl (fun h => ?_) (fun h => ?_)
  ·have h2 : nc.size ≠ 16 := by simp at h; omega
   rw [if_pos h2, if_pos (by decide)] at hE
   subst hE
   refine zaa ?_
   refine tx ?_
   refine yA ?_
   refine zab ?_
   refine zaf (zam (zam ?_))
   refine yT ?_ ?_
   ·exact rfl
   ·exact trivial
  have h2 : nc.size = 16 := by simp at h; omega
  clear h
  rw [if_neg (show ¬ nc.size ≠ 16 by simp [h2])] at hE
  by_cases h3 : hexE nc ≠ 0
  ·rw [if_pos h3, if_pos h3] at hE
   obtain ⟨g1, g2⟩ := zbU rfl h3
   rw [g1, g2] at hN
   subst hE
   generalize hexE nc = he at *
   refine zad (zaa (zaa ?_))
   refine tx ?_
   refine yF zgo ?_
   refine yL Tryz.underlying9 ?_
   refine yV (fun n => 60 + 1000 * n) (hN) Tryz.func91 ?_
   refine yP (zaq (r := .tup _)) ?_
   refine yP (zar rfl) ?_
   refine yP (zar rfl) ?_
   refine yA ?_
   refine yA ?_
   refine zab ?_
   refine zaa ?_
   refine tx ?_
   refine yM ?_
   refine yP za8 ?_
   refine zab ?_
   refine zae ?_
   refine zah _ rfl (fun h => ?_) (fun h => ?_)
   ·refine zaa ?_
    refine tx ?_
    refine yM ?_
    refine yA ?_
    refine zab ?_
    refine zaf (zam (zam ?_))
    refine yT ?_ ?_
    ·exact rfl
    ·exact trivial
   ·exact absurd (by simpa using h) h3
  rw [if_neg h3] at hE
  replace h3 : hexE nc = 0 := Decidable.not_not.1 h3
  obtain ⟨g1, g2⟩ := zcn h3
  rw [g1, g2] at hN
  clear g1 g2
  refine zad (zaa (zaa ?_))
  refine tx ?_
  refine yF zgo ?_
  refine yL Tryz.underlying9 ?_
  refine yV (fun n => 60 + 1000 * n) (hN) Tryz.func91 ?_
  refine yP (zaq (r := .tup _)) ?_
  refine yP (zar rfl) ?_
  refine yP (zar rfl) ?_
  refine yP (zas (r := .row _)) ?_
  refine yA ?_
  refine zab ?_
  refine zaa ?_
  refine tx ?_
  refine yM ?_
  refine yP zea ?_
  refine zab ?_
  refine zae ?_
  refine zan rfl ?_
  refine zad (zaa ?_)
  refine tx ?_
  refine yF zfy ?_
  refine yL Tryz.underlying3 ?_
  refine yP zaX ?_
  refine yM ?_
  refine mb2 _ rfl rfl (fun hb => (zag zfy rfl)) (fun _ => trivial) ?_
  refine mb2 _ rfl rfl (fun hb => (zat Tryz.underlying3 rfl (by first | rfl | assumption))) (fun _ => ⟨rfl, trivial⟩) ?_
  refine mb2 _ rfl rfl (fun hb => za5) (fun _ => trivial) ?_
  refine zac (a_or (by first | exact id | (simp; done) | grind)) rfl rfl ?_
  refine yM ?_
  refine mb2 _ rfl rfl (fun hb => (zag fi78_3 rfl)) (fun _ => trivial) ?_
  refine mb2 _ rfl rfl (fun hb => (zat Tryz.underlying3 rfl (by first | rfl | assumption))) (fun _ => ⟨rfl, trivial⟩) ?_
  refine mb2 _ rfl rfl (fun hb => zaX) (fun _ => trivial) ?_
  refine zac (a_or (by first | exact id | (simp; done) | grind)) rfl rfl ?_
  refine yM ?_
  refine mb2 _ rfl rfl (fun hb => (zag zd3 rfl)) (fun _ => trivial) ?_
  refine mb2 _ rfl rfl (fun hb => (zat Tryz.underlying3 rfl (by first | rfl | assumption))) (fun _ => ⟨rfl, trivial⟩) ?_
  refine mb2 _ rfl rfl (fun hb => (zag fi78_3 rfl)) (fun _ => trivial) ?_
  refine mb2 _ rfl rfl (fun hb => (zat Tryz.underlying3 rfl (by first | rfl | assumption))) (fun _ => ⟨rfl, trivial⟩) ?_
  refine mb2 _ rfl rfl (fun hb => zaX) (fun _ => trivial) ?_
  refine zac (a_or (by first | exact id | (simp; done) | grind)) rfl rfl ?_
  refine yM ?_
  refine mb2 _ rfl rfl (fun hb => (zag zd3 rfl)) (fun _ => trivial) ?_
  refine mb2 _ rfl rfl (fun hb => (zat Tryz.underlying3 rfl (by first | rfl | assumption))) (fun _ => ⟨rfl, trivial⟩) ?_
  refine mb2 _ rfl rfl (fun hb => za5) (fun _ => trivial) ?_
  refine zac (a_or (by first | exact id | (simp; done) | grind)) rfl rfl ?_
  refine zab ?_
  refine zae ?_
  refine zah _ rfl (fun h => ?_) (fun h => ?_)
  ·have h5 : mine < 1 ∨ 4294967295 < mine ∨ hb < 0 ∨ hs < hb ∨ 1099511627776 < hs := by simp at h; omega
   rw [if_pos h5, if_pos (by decide)] at hE
   subst hE
   refine zaa ?_
   refine tx ?_
   refine yA ?_
   refine zab ?_
   refine zaf (zam ?_)
   refine yT ?_ ?_
   ·exact rfl
   ·exact trivial
  have h5 : ¬ (mine < 1 ∨ 4294967295 < mine ∨ hb < 0 ∨ hs < hb ∨ 1099511627776 < hs) := by simp at h; omega
  clear h
  rw [if_neg h5, if_neg (by simp)] at hE
  by_cases h4 : ep ≠ ⟨#[]⟩ ∧ e1 ≠ 0
  ·rw [if_pos h4] at hE
   subst hE
   refine zad (zaa (zaa ?_))
   refine tx ?_
   refine yF zci ?_
   refine yL Tryz.underlying9 ?_
   refine yP zb2 ?_
   refine zab ?_
   refine zae ?_
   refine zah _ rfl (fun h => ?_) (fun h => ?_)
   ·refine zaa ?_
    refine tx ?_
    refine yF zci ?_
    refine yL Tryz.underlying9 ?_
    refine yV (fun n => 97 + 1000 * n) (hEn) Tryz.func93 ?_
    refine yP (zaq (r := .tup _)) ?_
    refine yP (zar rfl) ?_
    refine yP (zar rfl) ?_
    refine yP (zar rfl) ?_
    refine yA ?_
    refine yA ?_
    refine yA ?_
    refine zab ?_
    refine zaa ?_
    refine tx ?_
    refine yM ?_
    refine yP za8 ?_
    refine zab ?_
    refine zae ?_
    refine zah _ rfl (fun h => ?_) (fun h => ?_)
    ·refine zaa ?_
     refine tx ?_
     refine yM ?_
     refine yA ?_
     refine zab ?_
     refine zaf (zam ?_)
     refine yT ?_ ?_
     ·exact rfl
     ·exact trivial
    ·exact absurd (by simpa using h) h4.2
   ·exact absurd (by simpa using h) h4.1
  rw [if_neg h4] at hE
  refine zad (zaa (zaa ?_))
  refine tx ?_
  refine yF zci ?_
  refine yL Tryz.underlying9 ?_
  refine yP zb2 ?_
  refine zab ?_
  refine zae ?_
  refine zcU (St.of [(1, .ref 1 0)] [(1, .box 81 (stC key ep a b c ⟨true, mine, nc, hb, hs⟩ q.length (q.flatMap PQ.pv)))]) ?_ ?_
  ·skip
   refine zah _ rfl (fun h => ?_) (fun h => ?_)
   ·refine zaa ?_
    refine tx ?_
    refine yF zci ?_
    refine yL Tryz.underlying9 ?_
    refine yV (fun n => 97 + 1000 * n) (hEn) Tryz.func93 ?_
    refine yP (zaq (r := .tup _)) ?_
    refine yP (zar rfl) ?_
    refine yP (zar rfl) ?_
    refine yP (zar rfl) ?_
    refine yA ?_
    refine yA ?_
    refine yA ?_
    refine zab ?_
    refine zaa ?_
    refine tx ?_
    refine yM ?_
    refine yP za8 ?_
    refine zab ?_
    refine zae ?_
    refine zah _ rfl (fun h => ?_) (fun h => ?_)
    ·exact absurd ⟨by simp_all, by simpa using h⟩ h4
    ·refine zad (zae ?_)
     exact zaJ id _ _ (by repeat (first | exact trivial | refine ⟨⟨rfl, rfl⟩, ?_⟩)) (by repeat (first | exact trivial | refine ⟨⟨rfl, rfl⟩, ?_⟩)) rfl
   ·refine zad (zae ?_)
    exact zaJ id _ _ (by repeat (first | exact trivial | refine ⟨⟨rfl, rfl⟩, ?_⟩)) (by repeat (first | exact trivial | refine ⟨⟨rfl, rfl⟩, ?_⟩)) rfl
  clear h4
  refine zaa (zaa ?_)
  refine tx ?_
  refine yF zcs ?_
  refine yL Tryz.underlying79 ?_
  refine yP (zaC Tryz.underlying79) ?_
  refine yP za5 ?_
  refine zab ?_
  refine zae ?_
  refine zah _ rfl (fun h => ?_) (fun h => ?_)
  ·have h5 : 3 < q.length := by simp at h; omega
   rw [if_pos h5] at hE
   subst hE
   refine zaa ?_
   refine tx ?_
   refine yA ?_
   refine zab ?_
   refine zaf (zam ?_)
   refine yT ?_ ?_
   ·exact rfl
   ·exact trivial
  have h5 : ¬ 3 < q.length := by simp at h; omega
  clear h
  rw [if_neg h5] at hE
  unfold pqE at hE
  obtain ⟨f, hF⟩ : ∃ f, (fun i => if 200 < (pqG q i).xs.length then 1 else 0 : Nat → Int) = f := ⟨_, rfl⟩
  rw [hF] at hE
  refine zad (zaa (zaa ?_))
  refine tx ?_
  refine yF zcs ?_
  refine yL Tryz.underlying79 ?_
  refine yP (zaC Tryz.underlying79) ?_
  refine yM ?_
  refine zab ?_
  refine zaj ?_
  refine zaE (fun m st => ∃ i : Nat, m + i = q.length ∧ (∀ j, j < i → f j = 0) ∧ st = St.of [(109, .p (.sl q.length 3 (q.flatMap PQ.pv))), (110, .p (.v (.int .i64 q.length))), (111, .p (.v (.int .i64 i)))] []) q.length ?_ ?_
  ·refine ⟨_, zaJ id _ _ ?_ ?_ rfl, 0, by omega, by omega, rfl⟩
   ·(repeat (first | exact trivial | (refine ⟨⟨(by first | rfl | (simp; done) | (simp; omega)), rfl⟩, ?_⟩)))
   ·trivial
  rintro m st ⟨i, hi, hf, rfl⟩
  refine zaa ?_
  refine tx ?_
  refine yP zaX ?_
  refine zab ?_
  refine zaa ?_
  refine zah _ rfl (fun h => ?_) (fun h => ?_)
  ·have hlt : i < q.length := by simp at h; omega
   clear h
   obtain ⟨p, hp⟩ : ∃ p, q[i]? = some p := ⟨q[i], List.getElem?_eq_getElem hlt⟩
   have hch := zaN (f := PQ.pv) (k := 3) (fun _ => rfl) hp
   have hle := zaP (f := PQ.pv) (k := 3) (fun _ => rfl) hlt
   have hpx := hqx p (List.mem_of_getElem? hp)
   have hhit := @zb9 f i q.length hf hlt
   have hfi : f i = if 200 < p.xs.length then 1 else 0 := by rw [← hF]; show (if 200 < (pqG q i).xs.length then (1 : Int) else 0) = _; rw [show pqG q i = p by unfold pqG; rw [List.getD_eq_getElem?_getD, hp]; rfl]
   obtain ⟨pa, pb, xs⟩ := p
   dsimp only at hpx hfi
   change _ = [PV.v (.int .u32 pa), .v (.int .u32 pb), .sl xs.length 1 (bs xs)] at hch
   have hC := pchk_s pa pb xs.length (bs xs) (by omega)
   generalize hL : q.flatMap PQ.pv = L at *
   generalize bs xs = X at *
   generalize xs.length = N at *
   refine zad (zaa (zaj (zaa ?_)))
   refine tx ?_
   refine zac (zao Tryz.underlying79 sz91 (by omega) (by omega) rfl) rfl rfl ?_
   refine zac (zaz Tryz.underlying91 rfl sz91 (by rw [List.length_drop]; omega) (hch)) rfl rfl ?_
   refine zal (zaU 14 zr91 rfl) rfl rfl ⟨rfl, trivial⟩ ?_
   refine zal (zaA (Y := .agg [.p (.v (.int .u32 pa)), .p (.v (.int .u32 pb)), .p (.sl N 1 X)]) sz91 rfl rfl (Nat.eq_of_beq_eq_true rfl)) rfl rfl ⟨rfl, trivial⟩ ?_
   refine zab ?_
   by_cases h6 : 200 < N
   ·rw [if_pos h6] at hC hfi
    rw [hhit (by rw [hfi]; decide), hfi] at hE
    subst hE
    refine zaa ?_
    refine tx ?_
    refine lN Tryz.underlying91 rfl sz91 rfl rfl ⟨rfl, trivial⟩ ?_
    refine cS (fun n => 116 + 1000 * n) (hC) Tryz.func127 ?_
    refine yA ?_
    refine zab ?_
    refine zaa ?_
    refine tx ?_
    refine yM ?_
    refine yP za8 ?_
    refine zab ?_
    refine zae ?_
    refine zaD rfl ?_
    refine zaa ?_
    refine tx ?_
    refine yM ?_
    refine yA ?_
    refine zab ?_
    refine zaf (zaK (zam (zam (zaK (zam ?_)))))
    refine yT ?_ ?_
    ·exact rfl
    ·exact trivial
   ·rw [if_neg h6] at hC
    refine zaa ?_
    refine tx ?_
    refine lN Tryz.underlying91 rfl sz91 rfl rfl ⟨rfl, trivial⟩ ?_
    refine cS (fun n => 116 + 1000 * n) (hC) Tryz.func127 ?_
    refine yA ?_
    refine zab ?_
    refine zaa ?_
    refine tx ?_
    refine yM ?_
    refine yP za8 ?_
    refine zab ?_
    refine zae ?_
    refine zan rfl ?_
    refine zad (za3 (zae ?_))
    refine tx ?_
    refine zac (za4 (by first | exact IntWalk.i64_in _ (by omega) | rfl)) rfl rfl ?_
    refine yM ?_
    refine zab ?_
    refine zae ?_
    refine ⟨m - 1, by omega, _, zaJ id _ _ ?_ ?_ rfl, i + 1, by omega, fun j hj => ?_, rfl⟩
    ·(repeat (first | exact trivial | (refine ⟨⟨(by first | rfl | (simp; done) | (simp; omega)), rfl⟩, ?_⟩)))
    ·trivial
    ·by_cases ej : j = i
     ·rw [ej, hfi, if_neg h6]
     ·exact hf j (by omega)
  have hge : i = q.length := by simp at h; omega
  clear h
  subst hge
  rw [zcB hf] at hE
  subst hE
  refine zaG (zaa ?_)
  refine tx ?_
  refine yA ?_
  refine zab ?_
  refine zaf ?_
  refine yT ?_ ?_
  ·exact rfl
  ·exact trivial
set_option maxHeartbeats 4000000 in
theorem refState_s (s : ST) (ok : s.OK) : Fn Tryz.prog 86 [.agg s.cells] (.p (.v (.int .i64 (stE s)))) [] := by
 obtain ⟨key, ep, a, b, c, h0, q⟩ := s
 obtain ⟨hep, oa, ob, oc, hq, hqx⟩ := ok
 dsimp only at hep oa ob oc hq hqx
 obtain ⟨E, hE⟩ : ∃ E, stE ⟨key, ep, a, b, c, h0, q⟩ = E := ⟨_, rfl⟩
 rw [hE]
 unfold stE at hE
 dsimp only at hE
 have hK := zbT key
 have hEn := zhb ep hep
 obtain ⟨ea, eb, hen⟩ := enR_e ep
 rw [hen] at hEn
 clear hen
 have h3a := three_atV a b c
 have h3o := three_ok oa ob oc
 have hks : ksE a b c = fnz (fun i => kE (zg2 a b c i)) 3 := rfl
 generalize hT : zg2 a b c = T at *
 show Fn Tryz.prog _ [.agg (stC key ep a b c h0 q.length (q.flatMap PQ.pv))] _ _
 generalize keyE key = k1 at *
 generalize enE ep = e1 at *
 refine zap Tryz.func86 rfl (Nat.le_of_ble_eq_true rfl) fun w0 A => ?_
 refine zaa ?_
 refine tx ?_
 refine zal (za2 (X := .agg _) 1 rfl) rfl rfl ⟨rfl, trivial⟩ ?_
 refine yA ?_
 refine zab ?_
 refine zaa (zaa ?_)
 refine tx ?_
 refine yF zc4 ?_
 refine yL Tryz.underlying9 ?_
 refine yV (fun n => 17 + 1000 * n) (hK) Tryz.func61 ?_
 refine yA ?_
 refine zab ?_
 refine zaa ?_
 refine tx ?_
 refine yM ?_
 refine yP za8 ?_
 refine zab ?_
 refine zae ?_
 refine zah _ rfl (fun h => ?_) (fun h => ?_)
 ·have h1 : k1 ≠ 0 := by simpa using h
  rw [if_pos h1] at hE
  subst hE
  refine zaa ?_
  refine tx ?_
  refine yM ?_
  refine yA ?_
  refine zab ?_
  refine zaf (zam ?_)
  refine yT ?_ ?_
  ·exact rfl
  ·exact trivial
 have h1 : k1 = 0 := by simpa using h
 clear h
 rw [if_neg (by simp [h1])] at hE
 refine zad (zaa (zaa ?_))
 refine tx ?_
 refine yF zbI ?_
 refine yF fi76_0 ?_
 refine zal (zaL Tryz.underlying74 rfl sz74 (by first | exact Nat.le_of_ble_eq_true rfl | omega | (simp only [AV.cells, List.length_map]; omega)) (show _ = a.cells from rfl)) rfl rfl ⟨rfl, trivial⟩ ?_
 refine yF zbI ?_
 refine yF fi76_1 ?_
 refine zal (zaL Tryz.underlying74 rfl sz74 (by first | exact Nat.le_of_ble_eq_true rfl | omega | (simp only [AV.cells, List.length_map]; omega)) (show _ = b.cells from rfl)) rfl rfl ⟨rfl, trivial⟩ ?_
 refine yF zbI ?_
 refine yF fi76_2 ?_
 refine zal (zaL Tryz.underlying74 rfl sz74 (by first | exact Nat.le_of_ble_eq_true rfl | omega | (simp only [AV.cells, List.length_map]; omega)) (show _ = c.cells from rfl)) rfl rfl ⟨rfl, trivial⟩ ?_
 refine zal (xs := [.agg a.cells, .agg b.cells, .agg c.cells]) (zaO (es := (a.cells ++ b.cells ++ c.cells)) (cs := (a.pv ++ b.pv ++ c.pv)) 30 Tryz.underlying172 sz74 zc74 (Nat.le_of_ble_eq_true rfl) (Nat.le_of_ble_eq_true rfl) rfl (by kernel_rfl) (by kernel_rfl) (by kernel_rfl) (Nat.le_of_ble_eq_true rfl)) (by first | rfl | kernel_rfl) rfl ⟨rfl, trivial⟩ ?_
 refine zal (zeu Tryz.underlying172) rfl rfl ⟨rfl, trivial⟩ ?_
 refine yM ?_
 refine zab ?_
 refine zaj ?_
 refine zaE (fun m st => ∃ i : Nat, m + i = 3 ∧ (∀ j, j < i → kE (T j) = 0) ∧ st = St.of [(1, .ref 1 0), (30, .row 30), (31, .p (.v (.int .i64 3))), (32, .p (.v (.int .i64 i)))] [(1, .box 81 (stC key ep a b c h0 q.length (q.flatMap PQ.pv))), (30, .row 74 11 3 (zfY a b c))]) 3 ?_ ?_
 ·refine ⟨_, zaJ id _ _ ?_ ?_ rfl, 0, by omega, by omega, rfl⟩
  ·(repeat (first | exact trivial | (refine ⟨⟨(by first | rfl | (simp; done) | (simp; omega)), rfl⟩, ?_⟩)))
  ·exact ⟨⟨rfl, rfl⟩, ⟨rfl, rfl⟩, trivial⟩
 rintro m st ⟨i, hi, hf, rfl⟩
 refine zaa ?_
 refine tx ?_
 refine yP zaX ?_
 refine zab ?_
 refine zaa ?_
 refine zah _ rfl (fun h => ?_) (fun h => ?_)
 ·have hlt : i < 3 := by simp at h; omega
  clear h
  have hix := h3a i hlt
  have hsl : (zfY a b c).length = 33 := rfl
  have hC := refKFault_s (T i) (h3o i)
  have hhit := @zb9 (fun i => kE (T i)) i 3 hf hlt
  generalize hTx : T i = x at *
  refine zad (zaa (zaj (zaa ?_)))
  refine tx ?_
  refine zal (zaY Tryz.underlying172 sz74 (by omega) (by omega) (show _ = i * 11 by omega)) rfl rfl ⟨rfl, trivial⟩ ?_
  refine zal (a_loadNr Tryz.underlying74 rfl sz74 (by omega) (hix)) rfl rfl ⟨rfl, trivial⟩ ?_
  refine zal (zaU 5 zr74 rfl) rfl rfl ⟨rfl, trivial⟩ ?_
  refine zal (zaA (Y := .agg x.cells) sz74 rfl rfl (Nat.eq_of_beq_eq_true rfl)) rfl rfl ⟨rfl, trivial⟩ ?_
  refine zab ?_
  refine zaa ?_
  refine tx ?_
  refine zal (zaL Tryz.underlying74 rfl sz74 (by first | exact Nat.le_of_ble_eq_true rfl | omega | (simp only [AV.cells, List.length_map]; omega)) (show _ = x.cells from rfl)) rfl rfl ⟨rfl, trivial⟩ ?_
  refine cS (fun n => 37 + 1000 * n) (hC) Tryz.func129 ?_
  refine yA ?_
  refine zab ?_
  refine zaa ?_
  refine tx ?_
  refine yM ?_
  refine yP za8 ?_
  refine zab ?_
  refine zae ?_
  refine zah _ rfl (fun h => ?_) (fun h => ?_)
  ·have hne : kE x ≠ 0 := by simpa using h
   rw [hks, hhit hne, if_pos hne] at hE
   subst hE
   refine zaa ?_
   refine tx ?_
   refine yM ?_
   refine yA ?_
   refine zab ?_
   refine zaf (zaK (zam (zam (zaK (zam ?_)))))
   refine yT ?_ ?_
   ·exact rfl
   ·exact trivial
  have he : kE x = 0 := by simpa using h
  refine zad (za3 (zae ?_))
  refine tx ?_
  refine zac (za4 (by first | exact IntWalk.i64_in _ (by omega) | rfl)) rfl rfl ?_
  refine yM ?_
  refine zab ?_
  refine zae ?_
  refine ⟨m - 1, by omega, _, zaJ id _ _ ?_ ?_ rfl, i + 1, by omega, fun j hj => ?_, rfl⟩
  ·(repeat (first | exact trivial | (refine ⟨⟨(by first | rfl | (simp; done) | (simp; omega)), rfl⟩, ?_⟩)))
  ·exact ⟨⟨rfl, rfl⟩, ⟨rfl, rfl⟩, trivial⟩
  ·by_cases ej : j = i
   ·rw [ej, hTx]; exact he
   ·exact hf j (by omega)
 have hge : i = 3 := by simp at h; omega
 clear h
 subst hge
 rw [hks, zcB hf, if_neg (by simp)] at hE
 clear hf h3a h3o hks hT
 obtain ⟨lv, mine, nc, hb, hs⟩ := h0
 unfold hsE at hE
 dsimp only at hE
 have hN := zff nc
 refine zaG (zaa ?_)
 refine tx ?_
 refine yF zb1 ?_
 refine zal (zaL Tryz.underlying78 rfl sz78 (by first | exact Nat.le_of_ble_eq_true rfl | omega | (simp only [AV.cells, List.length_map]; omega)) (show _ = [.p (.v (.bool lv)), .p (.v (.int .i64 mine)), .p (.v (.string nc)), .p (.v (.int .i64 hb)), .p (.v (.int .i64 hs))] from rfl)) rfl rfl ⟨rfl, trivial⟩ ?_
 refine zal (zaU 7 zr78 rfl) rfl rfl ⟨rfl, trivial⟩ ?_
 refine zal (zaA (Y := .agg [.p (.v (.bool lv)), .p (.v (.int .i64 mine)), .p (.v (.string nc)), .p (.v (.int .i64 hb)), .p (.v (.int .i64 hs))]) sz78 rfl rfl (Nat.eq_of_beq_eq_true rfl)) rfl rfl ⟨rfl, trivial⟩ ?_
 refine zab ?_
 cases lv with
 | false =>
  rw [if_pos rfl] at hE
  refine zaa (zaa ?_)
  refine tx ?_
  refine yF zdK ?_
  refine yL Tryz.underlying4 ?_
  refine zab ?_
  refine zae ?_
  refine zan rfl ?_
  refine zaa ?_
  refine tx ?_
  refine yF zfy ?_
  refine yL Tryz.underlying3 ?_
  refine yP za8 ?_
  refine yM ?_
  refine mb2 _ rfl rfl (fun hb => (zag zgo rfl)) (fun _ => trivial) ?_
  refine mb2 _ rfl rfl (fun hb => (zat Tryz.underlying9 rfl (by first | rfl | assumption))) (fun _ => ⟨rfl, trivial⟩) ?_
  refine mb2 _ rfl rfl (fun hb => zb2) (fun _ => trivial) ?_
  refine zac (a_or (by first | exact id | (simp; done) | grind)) rfl rfl ?_
  refine yM ?_
  refine mb2 _ rfl rfl (fun hb => (zag fi78_3 rfl)) (fun _ => trivial) ?_
  refine mb2 _ rfl rfl (fun hb => (zat Tryz.underlying3 rfl (by first | rfl | assumption))) (fun _ => ⟨rfl, trivial⟩) ?_
  refine mb2 _ rfl rfl (fun hb => za8) (fun _ => trivial) ?_
  refine zac (a_or (by first | exact id | (simp; done) | grind)) rfl rfl ?_
  refine yM ?_
  refine mb2 _ rfl rfl (fun hb => (zag zd3 rfl)) (fun _ => trivial) ?_
  refine mb2 _ rfl rfl (fun hb => (zat Tryz.underlying3 rfl (by first | rfl | assumption))) (fun _ => ⟨rfl, trivial⟩) ?_
  refine mb2 _ rfl rfl (fun hb => za8) (fun _ => trivial) ?_
  refine zac (a_or (by first | exact id | (simp; done) | grind)) rfl rfl ?_
  refine zab ?_
  refine zae ?_
  refine zah _ rfl (fun h => ?_) (fun h => ?_)
  ·have hz : ¬ (mine = 0 ∧ nc = ⟨#[]⟩ ∧ hb = 0 ∧ hs = 0) := by
    intro ⟨z1, z2, z3, z4⟩
    simp [z1, z2, z3, z4] at h
   rw [if_neg hz, if_pos (by decide)] at hE
   subst hE
   refine zaa ?_
   refine tx ?_
   refine yA ?_
   refine zab ?_
   refine zaf (zam ?_)
   refine yT ?_ ?_
   ·exact rfl
   ·exact trivial
  have hz : mine = 0 ∧ nc = ⟨#[]⟩ ∧ hb = 0 ∧ hs = 0 := by
   simp at h
   grind
  clear h
  rw [if_pos hz, if_neg (by simp)] at hE
  refine zad (zaa (zaa ?_))
  refine tx ?_
  refine yF zci ?_
  refine yL Tryz.underlying9 ?_
  refine yV (fun n => 105 + 1000 * n) (hEn) Tryz.func103 ?_
  refine yP (zaq (r := .tup _)) ?_
  refine yP (zar rfl) ?_
  refine yP (zar rfl) ?_
  refine yP (zar rfl) ?_
  refine yA ?_
  refine yA ?_
  refine yA ?_
  refine zab ?_
  refine zaa ?_
  refine tx ?_
  refine yF zci ?_
  refine yL Tryz.underlying9 ?_
  refine yP zb2 ?_
  refine yM ?_
  refine mb2 _ rfl rfl (fun hb => (zaq (r := .p _))) (fun _ => trivial) ?_
  refine mb2 _ rfl rfl (fun hb => za8) (fun _ => trivial) ?_
  refine zac (zbl (by first | exact id | (simp; done) | grind)) rfl rfl ?_
  refine zab ?_
  refine zae ?_
  refine zah _ rfl (fun h => ?_) (fun h => ?_)
  ·have h4 : ep ≠ ⟨#[]⟩ ∧ e1 ≠ 0 := by simpa using h
   rw [if_pos h4] at hE
   subst hE
   refine zaa ?_
   refine tx ?_
   refine yM ?_
   refine yA ?_
   refine zab ?_
   refine zaf (zam ?_)
   refine yT ?_ ?_
   ·exact rfl
   ·exact trivial
  have h4 : ¬ (ep ≠ ⟨#[]⟩ ∧ e1 ≠ 0) := by
   intro ⟨h5, h6⟩
   simp [h5, h6] at h
  clear h
  rw [if_neg h4] at hE
  refine zad (zaa (zaa ?_))
  refine tx ?_
  refine yF zcs ?_
  refine yL Tryz.underlying79 ?_
  refine yP (zaC Tryz.underlying79) ?_
  refine yP za5 ?_
  refine zab ?_
  refine zae ?_
  refine zah _ rfl (fun h => ?_) (fun h => ?_)
  ·have h5 : 3 < q.length := by simp at h; omega
   rw [if_pos h5] at hE
   subst hE
   refine zaa ?_
   refine tx ?_
   refine yA ?_
   refine zab ?_
   refine zaf (zam ?_)
   refine yT ?_ ?_
   ·exact rfl
   ·exact trivial
  have h5 : ¬ 3 < q.length := by simp at h; omega
  clear h
  rw [if_neg h5] at hE
  unfold pqE at hE
  obtain ⟨f, hF⟩ : ∃ f, (fun i => if 200 < (pqG q i).xs.length then 1 else 0 : Nat → Int) = f := ⟨_, rfl⟩
  rw [hF] at hE
  refine zad (zaa (zaa ?_))
  refine tx ?_
  refine yF zcs ?_
  refine yL Tryz.underlying79 ?_
  refine yP (zaC Tryz.underlying79) ?_
  refine yM ?_
  refine zab ?_
  refine zaj ?_
  refine zaE (fun m st => ∃ i : Nat, m + i = q.length ∧ (∀ j, j < i → f j = 0) ∧ st = St.of [(122, .p (.sl q.length 3 (q.flatMap PQ.pv))), (123, .p (.v (.int .i64 q.length))), (124, .p (.v (.int .i64 i)))] []) q.length ?_ ?_
  ·refine ⟨_, zaJ id _ _ ?_ ?_ rfl, 0, by omega, by omega, rfl⟩
   ·(repeat (first | exact trivial | (refine ⟨⟨(by first | rfl | (simp; done) | (simp; omega)), rfl⟩, ?_⟩)))
   ·trivial
  rintro m st ⟨i, hi, hf, rfl⟩
  refine zaa ?_
  refine tx ?_
  refine yP zaX ?_
  refine zab ?_
  refine zaa ?_
  refine zah _ rfl (fun h => ?_) (fun h => ?_)
  ·have hlt : i < q.length := by simp at h; omega
   clear h
   obtain ⟨p, hp⟩ : ∃ p, q[i]? = some p := ⟨q[i], List.getElem?_eq_getElem hlt⟩
   have hch := zaN (f := PQ.pv) (k := 3) (fun _ => rfl) hp
   have hle := zaP (f := PQ.pv) (k := 3) (fun _ => rfl) hlt
   have hpx := hqx p (List.mem_of_getElem? hp)
   have hhit := @zb9 f i q.length hf hlt
   have hfi : f i = if 200 < p.xs.length then 1 else 0 := by rw [← hF]; show (if 200 < (pqG q i).xs.length then (1 : Int) else 0) = _; rw [show pqG q i = p by unfold pqG; rw [List.getD_eq_getElem?_getD, hp]; rfl]
   obtain ⟨pa, pb, xs⟩ := p
   dsimp only at hpx hfi
   change _ = [PV.v (.int .u32 pa), .v (.int .u32 pb), .sl xs.length 1 (bs xs)] at hch
   have hC := pchk_s pa pb xs.length (bs xs) (by omega)
   generalize hL : q.flatMap PQ.pv = L at *
   generalize bs xs = X at *
   generalize xs.length = N at *
   refine zad (zaa (zaj (zaa ?_)))
   refine tx ?_
   refine zac (zao Tryz.underlying79 sz91 (by omega) (by omega) rfl) rfl rfl ?_
   refine zac (zaz Tryz.underlying91 rfl sz91 (by rw [List.length_drop]; omega) (hch)) rfl rfl ?_
   refine zal (zaU 14 zr91 rfl) rfl rfl ⟨rfl, trivial⟩ ?_
   refine zal (zaA (Y := .agg [.p (.v (.int .u32 pa)), .p (.v (.int .u32 pb)), .p (.sl N 1 X)]) sz91 rfl rfl (Nat.eq_of_beq_eq_true rfl)) rfl rfl ⟨rfl, trivial⟩ ?_
   refine zab ?_
   refine zaa ?_
   refine tx ?_
   refine yF zd2 ?_
   refine yL Tryz.underlying89 ?_
   refine yP (zaC Tryz.underlying89) ?_
   refine yP za5 ?_
   refine zab ?_
   refine zae ?_
   refine zah _ rfl (fun h => ?_) (fun h => ?_)
   ·have h6 : 200 < N := by simp at h; omega
    rw [if_pos h6] at hfi
    rw [hhit (by rw [hfi]; decide), hfi] at hE
    subst hE
    refine zaa ?_
    refine tx ?_
    refine yA ?_
    refine zab ?_
    refine zaf (zaK (zam (zam (zaK (zam ?_)))))
    refine yT ?_ ?_
    ·exact rfl
    ·exact trivial
   ·have h6 : ¬ 200 < N := by simp at h; omega
    clear h
    refine zad (za3 (zae ?_))
    refine tx ?_
    refine zac (za4 (by first | exact IntWalk.i64_in _ (by omega) | rfl)) rfl rfl ?_
    refine yM ?_
    refine zab ?_
    refine zae ?_
    refine ⟨m - 1, by omega, _, zaJ id _ _ ?_ ?_ rfl, i + 1, by omega, fun j hj => ?_, rfl⟩
    ·(repeat (first | exact trivial | (refine ⟨⟨(by first | rfl | (simp; done) | (simp; omega)), rfl⟩, ?_⟩)))
    ·trivial
    ·by_cases ej : j = i
     ·rw [ej, hfi, if_neg h6]
     ·exact hf j (by omega)
  have hge : i = q.length := by simp at h; omega
  clear h
  subst hge
  rw [zcB hf] at hE
  subst hE
  refine zaG (zaa ?_)
  refine tx ?_
  refine yA ?_
  refine zab ?_
  refine zaf ?_
  refine yT ?_ ?_
  ·exact rfl
  ·exact trivial
 | true =>
  rw [if_neg (show ¬ true = false by decide)] at hE
  refine zaa (zaa ?_)
  refine tx ?_
  refine yF zdK ?_
  refine yL Tryz.underlying4 ?_
  refine zab ?_
  refine zae ?_
  refine zaD rfl ?_
  refine zaa (zaa ?_)
  refine tx ?_
  refine yF zgo ?_
  refine yL Tryz.underlying9 ?_
  refine yP (zbF Tryz.underlying9) ?_
  refine yP za8 ?_
  refine zab ?_
  refine zae ?_
  refine zah _ rfl (fun h => ?_) (fun h => ?_)
  ·have h2 : nc.size ≠ 16 := by simp at h; omega
   rw [if_pos h2, if_pos (by decide)] at hE
   subst hE
   refine zaa ?_
   refine tx ?_
   refine yA ?_
   refine zab ?_
   refine zaf (zam (zam ?_))
   refine yT ?_ ?_
   ·exact rfl
   ·exact trivial
  have h2 : nc.size = 16 := by simp at h; omega
  clear h
  rw [if_neg (show ¬ nc.size ≠ 16 by simp [h2])] at hE
  by_cases h3 : hexE nc ≠ 0
  ·rw [if_pos h3, if_pos h3] at hE
   obtain ⟨g1, g2⟩ := zbU rfl h3
   rw [g1, g2] at hN
   subst hE
   generalize hexE nc = he at *
   refine zad (zaa (zaa ?_))
   refine tx ?_
   refine yF zgo ?_
   refine yL Tryz.underlying9 ?_
   refine yV (fun n => 53 + 1000 * n) (hN) Tryz.func101 ?_
   refine yP (zaq (r := .tup _)) ?_
   refine yP (zar rfl) ?_
   refine yP (zar rfl) ?_
   refine yA ?_
   refine yA ?_
   refine zab ?_
   refine zaa ?_
   refine tx ?_
   refine yM ?_
   refine yP za8 ?_
   refine zab ?_
   refine zae ?_
   refine zah _ rfl (fun h => ?_) (fun h => ?_)
   ·refine zaa ?_
    refine tx ?_
    refine yM ?_
    refine yA ?_
    refine zab ?_
    refine zaf (zam (zam ?_))
    refine yT ?_ ?_
    ·exact rfl
    ·exact trivial
   ·exact absurd (by simpa using h) h3
  rw [if_neg h3] at hE
  replace h3 : hexE nc = 0 := Decidable.not_not.1 h3
  obtain ⟨g1, g2⟩ := zcn h3
  rw [g1, g2] at hN
  clear g1 g2
  refine zad (zaa (zaa ?_))
  refine tx ?_
  refine yF zgo ?_
  refine yL Tryz.underlying9 ?_
  refine yV (fun n => 53 + 1000 * n) (hN) Tryz.func101 ?_
  refine yP (zaq (r := .tup _)) ?_
  refine yP (zar rfl) ?_
  refine yP (zar rfl) ?_
  refine yP (zas (r := .row _)) ?_
  refine yA ?_
  refine zab ?_
  refine zaa ?_
  refine tx ?_
  refine yM ?_
  refine yP zea ?_
  refine zab ?_
  refine zae ?_
  refine zan rfl ?_
  refine zad (zaa ?_)
  refine tx ?_
  refine yF zfy ?_
  refine yL Tryz.underlying3 ?_
  refine yP a_leq ?_
  refine yM ?_
  refine mb2 _ rfl rfl (fun hb => (zag zfy rfl)) (fun _ => trivial) ?_
  refine mb2 _ rfl rfl (fun hb => (zat Tryz.underlying3 rfl (by first | rfl | assumption))) (fun _ => ⟨rfl, trivial⟩) ?_
  refine mb2 _ rfl rfl (fun hb => zeb) (fun _ => trivial) ?_
  refine zac (a_or (by first | exact id | (simp; done) | grind)) rfl rfl ?_
  refine yM ?_
  refine mb2 _ rfl rfl (fun hb => (zag fi78_3 rfl)) (fun _ => trivial) ?_
  refine mb2 _ rfl rfl (fun hb => (zat Tryz.underlying3 rfl (by first | rfl | assumption))) (fun _ => ⟨rfl, trivial⟩) ?_
  refine mb2 _ rfl rfl (fun hb => zaX) (fun _ => trivial) ?_
  refine zac (a_or (by first | exact id | (simp; done) | grind)) rfl rfl ?_
  refine yM ?_
  refine mb2 _ rfl rfl (fun hb => (zag zd3 rfl)) (fun _ => trivial) ?_
  refine mb2 _ rfl rfl (fun hb => (zat Tryz.underlying3 rfl (by first | rfl | assumption))) (fun _ => ⟨rfl, trivial⟩) ?_
  refine mb2 _ rfl rfl (fun hb => (zag fi78_3 rfl)) (fun _ => trivial) ?_
  refine mb2 _ rfl rfl (fun hb => (zat Tryz.underlying3 rfl (by first | rfl | assumption))) (fun _ => ⟨rfl, trivial⟩) ?_
  refine mb2 _ rfl rfl (fun hb => zaX) (fun _ => trivial) ?_
  refine zac (a_or (by first | exact id | (simp; done) | grind)) rfl rfl ?_
  refine yM ?_
  refine mb2 _ rfl rfl (fun hb => (zag zd3 rfl)) (fun _ => trivial) ?_
  refine mb2 _ rfl rfl (fun hb => (zat Tryz.underlying3 rfl (by first | rfl | assumption))) (fun _ => ⟨rfl, trivial⟩) ?_
  refine mb2 _ rfl rfl (fun hb => za5) (fun _ => trivial) ?_
  refine zac (a_or (by first | exact id | (simp; done) | grind)) rfl rfl ?_
  refine zab ?_
  refine zae ?_
  refine zah _ rfl (fun h => ?_) (fun h => ?_)
  ·have h5 : mine < 1 ∨ 4294967295 < mine ∨ hb < 0 ∨ hs < hb ∨ 1099511627776 < hs := by simp at h; omega
   rw [if_pos h5, if_pos (by decide)] at hE
   subst hE
   refine zaa ?_
   refine tx ?_
   refine yA ?_
   refine zab ?_
   refine zaf (zam ?_)
   refine yT ?_ ?_
   ·exact rfl
   ·exact trivial
  have h5 : ¬ (mine < 1 ∨ 4294967295 < mine ∨ hb < 0 ∨ hs < hb ∨ 1099511627776 < hs) := by simp at h; omega
  clear h
  rw [if_neg h5, if_neg (by simp)] at hE
  refine zad (zaa (zaa ?_))
  refine tx ?_
  refine yF zci ?_
  refine yL Tryz.underlying9 ?_
  refine yV (fun n => 105 + 1000 * n) (hEn) Tryz.func103 ?_
  refine yP (zaq (r := .tup _)) ?_
  refine yP (zar rfl) ?_
  refine yP (zar rfl) ?_
  refine yP (zar rfl) ?_
  refine yA ?_
  refine yA ?_
  refine yA ?_
  refine zab ?_
  refine zaa ?_
  refine tx ?_
  refine yF zci ?_
  refine yL Tryz.underlying9 ?_
  refine yP zb2 ?_
  refine yM ?_
  refine mb2 _ rfl rfl (fun hb => (zaq (r := .p _))) (fun _ => trivial) ?_
  refine mb2 _ rfl rfl (fun hb => za8) (fun _ => trivial) ?_
  refine zac (zbl (by first | exact id | (simp; done) | grind)) rfl rfl ?_
  refine zab ?_
  refine zae ?_
  refine zah _ rfl (fun h => ?_) (fun h => ?_)
  ·have h4 : ep ≠ ⟨#[]⟩ ∧ e1 ≠ 0 := by simpa using h
   rw [if_pos h4] at hE
   subst hE
   refine zaa ?_
   refine tx ?_
   refine yM ?_
   refine yA ?_
   refine zab ?_
   refine zaf (zam ?_)
   refine yT ?_ ?_
   ·exact rfl
   ·exact trivial
  have h4 : ¬ (ep ≠ ⟨#[]⟩ ∧ e1 ≠ 0) := by
   intro ⟨h5, h6⟩
   simp [h5, h6] at h
  clear h
  rw [if_neg h4] at hE
  refine zad (zaa (zaa ?_))
  refine tx ?_
  refine yF zcs ?_
  refine yL Tryz.underlying79 ?_
  refine yP (zaC Tryz.underlying79) ?_
  refine yP za5 ?_
  refine zab ?_
  refine zae ?_
  refine zah _ rfl (fun h => ?_) (fun h => ?_)
  ·have h5 : 3 < q.length := by simp at h; omega
   rw [if_pos h5] at hE
   subst hE
   refine zaa ?_
   refine tx ?_
   refine yA ?_
   refine zab ?_
   refine zaf (zam ?_)
   refine yT ?_ ?_
   ·exact rfl
   ·exact trivial
  have h5 : ¬ 3 < q.length := by simp at h; omega
  clear h
  rw [if_neg h5] at hE
  unfold pqE at hE
  obtain ⟨f, hF⟩ : ∃ f, (fun i => if 200 < (pqG q i).xs.length then 1 else 0 : Nat → Int) = f := ⟨_, rfl⟩
  rw [hF] at hE
  refine zad (zaa (zaa ?_))
  refine tx ?_
  refine yF zcs ?_
  refine yL Tryz.underlying79 ?_
  refine yP (zaC Tryz.underlying79) ?_
  refine yM ?_
  refine zab ?_
  refine zaj ?_
  refine zaE (fun m st => ∃ i : Nat, m + i = q.length ∧ (∀ j, j < i → f j = 0) ∧ st = St.of [(122, .p (.sl q.length 3 (q.flatMap PQ.pv))), (123, .p (.v (.int .i64 q.length))), (124, .p (.v (.int .i64 i)))] []) q.length ?_ ?_
  ·refine ⟨_, zaJ id _ _ ?_ ?_ rfl, 0, by omega, by omega, rfl⟩
   ·(repeat (first | exact trivial | (refine ⟨⟨(by first | rfl | (simp; done) | (simp; omega)), rfl⟩, ?_⟩)))
   ·trivial
  rintro m st ⟨i, hi, hf, rfl⟩
  refine zaa ?_
  refine tx ?_
  refine yP zaX ?_
  refine zab ?_
  refine zaa ?_
  refine zah _ rfl (fun h => ?_) (fun h => ?_)
  ·have hlt : i < q.length := by simp at h; omega
   clear h
   obtain ⟨p, hp⟩ : ∃ p, q[i]? = some p := ⟨q[i], List.getElem?_eq_getElem hlt⟩
   have hch := zaN (f := PQ.pv) (k := 3) (fun _ => rfl) hp
   have hle := zaP (f := PQ.pv) (k := 3) (fun _ => rfl) hlt
   have hpx := hqx p (List.mem_of_getElem? hp)
   have hhit := @zb9 f i q.length hf hlt
   have hfi : f i = if 200 < p.xs.length then 1 else 0 := by rw [← hF]; show (if 200 < (pqG q i).xs.length then (1 : Int) else 0) = _; rw [show pqG q i = p by unfold pqG; rw [List.getD_eq_getElem?_getD, hp]; rfl]
   obtain ⟨pa, pb, xs⟩ := p
   dsimp only at hpx hfi
   change _ = [PV.v (.int .u32 pa), .v (.int .u32 pb), .sl xs.length 1 (bs xs)] at hch
   have hC := pchk_s pa pb xs.length (bs xs) (by omega)
   generalize hL : q.flatMap PQ.pv = L at *
   generalize bs xs = X at *
   generalize xs.length = N at *
   refine zad (zaa (zaj (zaa ?_)))
   refine tx ?_
   refine zac (zao Tryz.underlying79 sz91 (by omega) (by omega) rfl) rfl rfl ?_
   refine zac (zaz Tryz.underlying91 rfl sz91 (by rw [List.length_drop]; omega) (hch)) rfl rfl ?_
   refine zal (zaU 14 zr91 rfl) rfl rfl ⟨rfl, trivial⟩ ?_
   refine zal (zaA (Y := .agg [.p (.v (.int .u32 pa)), .p (.v (.int .u32 pb)), .p (.sl N 1 X)]) sz91 rfl rfl (Nat.eq_of_beq_eq_true rfl)) rfl rfl ⟨rfl, trivial⟩ ?_
   refine zab ?_
   refine zaa ?_
   refine tx ?_
   refine yF zd2 ?_
   refine yL Tryz.underlying89 ?_
   refine yP (zaC Tryz.underlying89) ?_
   refine yP za5 ?_
   refine zab ?_
   refine zae ?_
   refine zah _ rfl (fun h => ?_) (fun h => ?_)
   ·have h6 : 200 < N := by simp at h; omega
    rw [if_pos h6] at hfi
    rw [hhit (by rw [hfi]; decide), hfi] at hE
    subst hE
    refine zaa ?_
    refine tx ?_
    refine yA ?_
    refine zab ?_
    refine zaf (zaK (zam (zam (zaK (zam ?_)))))
    refine yT ?_ ?_
    ·exact rfl
    ·exact trivial
   ·have h6 : ¬ 200 < N := by simp at h; omega
    clear h
    refine zad (za3 (zae ?_))
    refine tx ?_
    refine zac (za4 (by first | exact IntWalk.i64_in _ (by omega) | rfl)) rfl rfl ?_
    refine yM ?_
    refine zab ?_
    refine zae ?_
    refine ⟨m - 1, by omega, _, zaJ id _ _ ?_ ?_ rfl, i + 1, by omega, fun j hj => ?_, rfl⟩
    ·(repeat (first | exact trivial | (refine ⟨⟨(by first | rfl | (simp; done) | (simp; omega)), rfl⟩, ?_⟩)))
    ·trivial
    ·by_cases ej : j = i
     ·rw [ej, hfi, if_neg h6]
     ·exact hf j (by omega)
  have hge : i = q.length := by simp at h; omega
  clear h
  subst hge
  rw [zcB hf] at hE
  subst hE
  refine zaG (zaa ?_)
  refine tx ?_
  refine yA ?_
  refine zab ?_
  refine zaf ?_
  refine yT ?_ ?_
  ·exact rfl
  ·exact trivial
end Go.Proofs.YtgpleldhddpcgaaGreatDoor
