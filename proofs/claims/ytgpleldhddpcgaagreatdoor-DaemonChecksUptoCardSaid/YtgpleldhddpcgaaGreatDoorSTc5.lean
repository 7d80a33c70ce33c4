/- table.Copy, over data; the law TableChecks. -/
import Derived.Test.YtgpleldhddpcgaaGreatDoorSTc3
import Derived.Test.YtgpleldhddpcgaaGreatDoorSTc4
import Derived.Test.YtgpleldhddpcgaaGreatDoorSFz
namespace Go.Proofs.YtgpleldhddpcgaaGreatDoor
open Go.RowKit Go.Sort
set_option linter.unusedVariables false
set_option linter.unusedSimpArgs false
set_option maxRecDepth 100000
theorem bclone_s (n : Nat) (xs : List Int) (hx : xs.length = n) (hn : n ≤ 140737488355328) : Fn Tryz.prog 83 [.p (.sl n 1 (bs xs))] (.row 0) [(0, .row 5 1 n (bs xs))] := by
 refine zap Tryz.func83 rfl (Nat.le_of_ble_eq_true rfl) fun w0 A => ?_
 refine zaa ?_
 refine tx ?_
 refine yA ?_
 refine zab ?_
 by_cases h0 : n = 0
 ·subst h0
  obtain rfl : xs = [] := List.eq_nil_of_length_eq_zero hx
  refine zaa (zaa ?_)
  refine tx ?_
  refine yM ?_
  refine yP (a_seqX Tryz.underlying89) ?_
  refine zab ?_
  refine zae ?_
  refine ze8 rfl ?_ ?_
  ·refine zaa ?_
   refine tx ?_
   refine yA ?_
   refine zab ?_
   refine zae (zcu (zdk 2 100 5 1 rfl rfl) ?_)
   refine zaf (zam ?_)
   refine fT (fun _ => 100) (.tmp _ _ _ _ rfl .nil) ?_ ?_
   ·exact rfl
   ·exact ⟨⟨rfl, rfl⟩, trivial⟩
  ·refine zad (zaa ?_)
   refine tx ?_
   refine zal (zbG 5 Tryz.underlying89 sz5) rfl rfl ⟨rfl, trivial⟩ ?_
   refine yM ?_
   refine zal (zbe 7 Tryz.underlying89 eo5 (zdJ) (by simp only [maxLen]; omega) (by omega) rfl rfl) rfl rfl ⟨rfl, rfl, trivial⟩ ?_
   refine yP (zas (r := .row _)) ?_
   refine zab ?_
   refine zaf ?_
   refine fT (fun _ => 7) (.tmp _ _ _ _ rfl .nil) ?_ ?_
   ·exact rfl
   ·exact ⟨⟨rfl, rfl⟩, trivial⟩
 ·refine zaa (zaa ?_)
  refine tx ?_
  refine yM ?_
  refine zac (a_seqS Tryz.underlying89 (by omega)) rfl rfl ?_
  refine zab ?_
  refine zae ?_
  refine zah _ rfl (fun h => ?_) (fun h => ?_)
  ·cases h
  ·refine zad (zaa ?_)
   refine tx ?_
   refine zal (zbG 5 Tryz.underlying89 sz5) rfl rfl ⟨rfl, trivial⟩ ?_
   refine yM ?_
   refine zal (zbe 7 Tryz.underlying89 eo5 (zdJ) (by simp only [maxLen]; omega) (by omega) (show _ = n by omega) rfl) rfl rfl ⟨rfl, rfl, trivial⟩ ?_
   refine yP (zas (r := .row _)) ?_
   refine zab ?_
   refine zaf ?_
   refine fT (fun _ => 7) (.tmp _ _ _ _ rfl .nil) ?_ ?_
   ·exact rfl
   ·exact ⟨⟨rfl, rfl⟩, trivial⟩
theorem pq_push (l : List PQ) (i : Nat) (p : PQ) (h : l[i]? = some p) : (l.take i).flatMap PQ.pv ++ [.v (.int .u32 p.a), .v (.int .u32 p.b), .sl p.xs.length 1 (bs p.xs)] = (l.take (i + 1)).flatMap PQ.pv := by
 obtain ⟨h1, h2⟩ := List.getElem?_eq_some_iff.1 h
 rw [List.take_succ_eq_append_getElem h1, h2, List.flatMap_append]
 simp [PQ.pv]
theorem st_push (l : List ST) (i : Nat) (s : ST) (h : l[i]? = some s) : (l.take i).flatMap ST.pv ++ s.pv = (l.take (i + 1)).flatMap ST.pv := by
 obtain ⟨h1, h2⟩ := List.getElem?_eq_some_iff.1 h
 rw [List.take_succ_eq_append_getElem h1, h2, List.flatMap_append]
 simp
set_option maxHeartbeats 8000000 in
theorem tcopy_s (l : List ST) (ok : ∀ s ∈ l, s.OK) (hn : l.length ≤ 1048576) : Fn Tryz.prog 41 [.p (.sl l.length 41 (l.flatMap ST.pv))] (.row 0) [(0, .row 81 41 l.length (l.flatMap ST.pv))] := by
 refine zap Tryz.func41 rfl (Nat.le_of_ble_eq_true rfl) fun w0 A => ?_
 refine zaa ?_
 refine tx ?_
 refine yA ?_
 refine zab ?_
 refine zaa ?_
 refine tx ?_
 refine yM ?_
 refine yP (zaC Tryz.underlying40) ?_
 refine zal (zhv 11 Tryz.underlying40 eo81 (by omega) (by omega) (by simp only [maxLen]; omega)) rfl rfl ⟨rfl, trivial⟩ ?_
 refine yP (zas (r := .row _)) ?_
 refine zab ?_
 refine zaa (zaa ?_)
 refine tx ?_
 refine yM ?_
 refine yP (zaC Tryz.underlying40) ?_
 refine yM ?_
 refine zab ?_
 refine zaj ?_
 refine zaE (fun m st => ∃ i : Nat, m + i = l.length ∧ st = St.of [(3, .row 100), (12, .p (.sl l.length 41 (l.flatMap ST.pv))), (13, .p (.v (.int .i64 l.length))), (14, .p (.v (.int .i64 i)))] [(100, .row 81 41 i ((l.take i).flatMap ST.pv))]) l.length ?_ ?_
 ·refine ⟨_, zaJ (fun _ => 11) _ _ ?_ ?_ rfl, 0, by omega, rfl⟩
  ·(repeat (first | exact trivial | (refine ⟨⟨(by first | rfl | (simp; done) | (simp; omega)), rfl⟩, ?_⟩)))
  ·exact ⟨⟨rfl, rfl⟩, trivial⟩
 rintro m st ⟨i, hi, rfl⟩
 refine zaa ?_
 refine tx ?_
 refine yP zaX ?_
 refine zab ?_
 refine zaa ?_
 refine zah _ rfl (fun h => ?_) (fun h => ?_)
 ·have hlt : i < l.length := by simp at h; omega
  clear h
  obtain ⟨s, hs⟩ : ∃ s, l[i]? = some s := ⟨l[i], List.getElem?_eq_getElem hlt⟩
  have hch := zaN (f := ST.pv) (k := 41) (fun _ => rfl) hs
  have hle := zaP (f := ST.pv) (k := 41) (fun _ => rfl) hlt
  obtain ⟨_, _, _, _, hq, hqx⟩ := ok s (List.mem_of_getElem? hs)
  have hpush := st_push l i s hs
  have hil : ((l.take i).flatMap ST.pv).length = i * 41 := by rw [zcg (k := 41) (fun _ => rfl), List.length_take, Nat.min_eq_left (by omega)]
  generalize hL : l.flatMap ST.pv = L at *
  generalize (l.take i).flatMap ST.pv = T at *
  obtain ⟨key, ep, a, b, c, hh, q⟩ := s
  dsimp only at hq hqx
  refine zad (zaa (zaj (zaa ?_)))
  refine tx ?_
  refine zac (zao Tryz.underlying40 sz81 (by omega) (by omega) rfl) rfl rfl ?_
  refine zac (zaz Tryz.underlying81 rfl sz81 (by first | omega | (simp; done) | (simp; omega)) (hch)) rfl rfl ?_
  refine zal (zaU 5 zr81 rfl) rfl rfl ⟨rfl, trivial⟩ ?_
  refine zal (zaA (Y := .agg (stC key ep a b c hh q.length (q.flatMap PQ.pv))) sz81 rfl rfl (Nat.eq_of_beq_eq_true rfl)) rfl rfl ⟨rfl, trivial⟩ ?_
  refine zab ?_
  refine zaa ?_
  refine tx ?_
  refine yF zcs ?_
  refine yL Tryz.underlying79 ?_
  refine yP (zaC Tryz.underlying79) ?_
  refine zal (zhv 21 Tryz.underlying79 eo91 (by omega) (by omega) (by simp only [maxLen]; omega)) rfl rfl ⟨rfl, trivial⟩ ?_
  refine yP (zas (r := .row _)) ?_
  refine zab ?_
  refine zaa (zaa ?_)
  refine tx ?_
  refine yF zcs ?_
  refine yL Tryz.underlying79 ?_
  refine yP (zaC Tryz.underlying79) ?_
  refine yM ?_
  refine zab ?_
  refine zaj ?_
  refine zaE (fun m' st => ∃ j : Nat, m' + j = q.length ∧ st = St.of [(3, .row 100), (5, .ref 5 0), (6, .row 101), (12, .p (.sl l.length 41 L)), (13, .p (.v (.int .i64 l.length))), (14, .p (.v (.int .i64 i))), (23, .p (.sl q.length 3 (q.flatMap PQ.pv))), (24, .p (.v (.int .i64 q.length))), (25, .p (.v (.int .i64 j)))] [(5, .box 81 (stC key ep a b c hh q.length (q.flatMap PQ.pv))), (100, .row 81 41 i T), (101, .row 91 3 j ((q.take j).flatMap PQ.pv))]) q.length ?_ ?_
  ·refine ⟨_, zaJ (fun o => bif Nat.beq o 101 then 21 else o) _ _ ?_ ?_ rfl, 0, by omega, rfl⟩
   ·(repeat (first | exact trivial | (refine ⟨⟨(by first | rfl | (simp; done) | (simp; omega)), rfl⟩, ?_⟩)))
   ·exact ⟨⟨rfl, rfl⟩, ⟨rfl, rfl⟩, ⟨rfl, rfl⟩, trivial⟩
  rintro m' st ⟨j, hj, rfl⟩
  refine zaa ?_
  refine tx ?_
  refine yP zaX ?_
  refine zab ?_
  refine zaa ?_
  refine zah _ rfl (fun h => ?_) (fun h => ?_)
  ·have hlj : j < q.length := by simp at h; omega
   clear h
   obtain ⟨p, hp⟩ : ∃ p, q[j]? = some p := ⟨q[j], List.getElem?_eq_getElem hlj⟩
   have hch2 := zaN (f := PQ.pv) (k := 3) (fun _ => rfl) hp
   have hle2 := zaP (f := PQ.pv) (k := 3) (fun _ => rfl) hlj
   have hC := bclone_s p.xs.length p.xs rfl (by have := hqx p (List.mem_of_getElem? hp); omega)
   have hpp := pq_push q j p hp
   have hjl : ((q.take j).flatMap PQ.pv).length = j * 3 := by rw [zcg (k := 3) (fun _ => rfl), List.length_take, Nat.min_eq_left (by omega)]
   generalize hQ : q.flatMap PQ.pv = Q at *
   generalize (q.take j).flatMap PQ.pv = V at *
   obtain ⟨pa, pb, xs⟩ := p
   dsimp only at hC hpp
   refine zad (zaa (zaj (zaa ?_)))
   refine tx ?_
   refine zac (zao Tryz.underlying79 sz91 (by omega) (by omega) rfl) rfl rfl ?_
   refine zac (zaz Tryz.underlying91 rfl sz91 (by first | omega | (simp; done) | (simp; omega)) (hch2)) rfl rfl ?_
   refine zal (zaU 8 zr91 rfl) rfl rfl ⟨rfl, trivial⟩ ?_
   refine zal (zaA (Y := .agg [.p (.v (.int .u32 pa)), .p (.v (.int .u32 pb)), .p (.sl xs.length 1 (bs xs))]) sz91 rfl rfl (Nat.eq_of_beq_eq_true rfl)) rfl rfl ⟨rfl, trivial⟩ ?_
   refine zab ?_
   refine zaa ?_
   refine tx ?_
   refine yF zd2 ?_
   refine yL Tryz.underlying89 ?_
   refine cS (fun _ => 31) (hC) Tryz.func83 ?_
   refine yF zd2 ?_
   refine zal (zbp (Y := .row _) sz89 rfl (by first | exact Nat.eq_of_beq_eq_true rfl | (simp only [AV.cells, List.length_map]; first | assumption | omega)) (by first | exact Nat.le_of_ble_eq_true rfl | omega | (simp only [AV.cells, List.length_map]; omega)) (by first | (simp only [setR, AV.cells, List.take_succ_cons, List.take_zero, List.drop_succ_cons, List.drop_zero, List.drop_nil, List.take_nil, List.nil_append, List.cons_append, List.append_nil, List.length_cons, List.length_nil, Nat.reduceAdd, Nat.zero_add, Nat.add_zero]; rfl) | rfl)) rfl rfl ⟨rfl, trivial⟩ ?_
   refine zab ?_
   refine zg3 (zha (cs := bs xs) 31 rfl) ?_
   skip
   refine tx ?_
   refine yP (zaq (r := .row _)) ?_
   refine lN Tryz.underlying91 rfl sz91 rfl rfl ⟨rfl, trivial⟩ ?_
   refine zal (zaO 35 Tryz.underlying79 sz91 zc91 (Nat.le_of_ble_eq_true rfl) (Nat.le_of_ble_eq_true rfl) rfl rfl rfl rfl (Nat.le_of_ble_eq_true rfl)) rfl rfl ⟨rfl, trivial⟩ ?_
   refine zal (zbe 36 Tryz.underlying79 eo91 (zbX) (by simp only [maxLen]; omega) (by omega) rfl rfl) rfl rfl ⟨rfl, rfl, rfl, trivial⟩ ?_
   refine yP (zas (r := .row _)) ?_
   refine zab ?_
   refine za3 (zae ?_)
   refine tx ?_
   refine zac (za4 (by first | exact IntWalk.i64_in _ (by omega) | rfl)) rfl rfl ?_
   refine yM ?_
   refine zab ?_
   refine zae ?_
   refine ⟨m' - 1, by omega, _, zaJ (fun o => bif Nat.beq o 101 then 36 else o) _ _ ?_ ?_ rfl, j + 1, by omega, rfl⟩
   ·(repeat (first | exact trivial | (refine ⟨⟨(by first | rfl | (simp; done) | (simp; omega)), rfl⟩, ?_⟩)))
   ·exact ⟨⟨rfl, rfl⟩, ⟨rfl, rfl⟩, ⟨by rw [← hpp]; rfl, rfl⟩, trivial⟩
  have hge : j = q.length := by simp at h; omega
  clear h
  subst hge
  rw [List.take_length]
  refine zaG (zaa ?_)
  refine tx ?_
  refine yP (zaq (r := .row _)) ?_
  refine yF zcs ?_
  refine zal (zbp (Y := .row _) sz79 rfl (by first | exact Nat.eq_of_beq_eq_true rfl | (simp only [AV.cells, List.length_map]; first | assumption | omega)) (by first | exact Nat.le_of_ble_eq_true rfl | omega | (simp only [AV.cells, List.length_map]; omega)) (by first | (simp only [setR, AV.cells, List.take_succ_cons, List.take_zero, List.drop_succ_cons, List.drop_zero, List.drop_nil, List.take_nil, List.nil_append, List.cons_append, List.append_nil, List.length_cons, List.length_nil, Nat.reduceAdd, Nat.zero_add, Nat.add_zero]; rfl) | rfl)) rfl rfl ⟨rfl, trivial⟩ ?_
  refine zab ?_
  refine zg3 (zha (cs := q.flatMap PQ.pv) 101 rfl) ?_
  skip
  refine tx ?_
  refine yP (zaq (r := .row _)) ?_
  refine lN Tryz.underlying81 rfl sz81 rfl rfl ⟨rfl, trivial⟩ ?_
  refine zal (zaO 42 Tryz.underlying40 sz81 zc81 (Nat.le_of_ble_eq_true rfl) (Nat.le_of_ble_eq_true rfl) rfl rfl rfl rfl (Nat.le_of_ble_eq_true rfl)) rfl rfl ⟨rfl, trivial⟩ ?_
  refine zal (zbe 43 Tryz.underlying40 eo81 (zbX) (by simp only [maxLen]; omega) (by omega) rfl rfl) rfl rfl ⟨rfl, rfl, rfl, trivial⟩ ?_
  refine yP (zas (r := .row _)) ?_
  refine zab ?_
  refine za3 (zae ?_)
  refine tx ?_
  refine zac (za4 (by first | exact IntWalk.i64_in _ (by omega) | rfl)) rfl rfl ?_
  refine yM ?_
  refine zab ?_
  refine zae ?_
  refine ⟨m - 1, by omega, _, zaJ (fun o => 43) _ _ ?_ ?_ rfl, i + 1, by omega, rfl⟩
  ·(repeat (first | exact trivial | (refine ⟨⟨(by first | rfl | (simp; done) | (simp; omega)), rfl⟩, ?_⟩)))
  ·exact ⟨⟨by rw [← hpush]; rfl, rfl⟩, trivial⟩
 have hge : i = l.length := by simp at h; omega
 clear h
 subst hge
 rw [List.take_length]
 refine zaG (zaa ?_)
 refine tx ?_
 refine yP (zaq (r := .row _)) ?_
 refine yP (zas (r := .row _)) ?_
 refine zab ?_
 refine zaf ?_
 refine fT (fun _ => 100) (.tmp _ _ _ _ rfl .nil) ?_ ?_
 ·exact rfl
 ·exact ⟨⟨rfl, rfl⟩, trivial⟩
end Go.Proofs.YtgpleldhddpcgaaGreatDoor
