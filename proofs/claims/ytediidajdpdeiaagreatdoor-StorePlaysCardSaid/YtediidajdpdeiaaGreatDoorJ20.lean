/- The document's log (layer 7): Restart; the walk. -/
import Derived.Test.YtediidajdpdeiaaGreatDoorJ18
import Derived.Test.YtediidajdpdeiaaGreatDoorJ19
import Derived.Test.YtediidajdpdeiaaGreatDoorJ9
import Derived.Test.YtediidajdpdeiaaGreatDoorJ17
import Derived.Test.YtediidajdpdeiaaGreatDoorJ16
import Derived.Test.YtediidajdpdeiaaGreatDoorJ11
import Derived.Test.YtediidajdpdeiaaGreatDoorJ10
import Derived.Test.YtediidajdpdeiaaGreatDoorJ12

namespace Go.Proofs.YtediidajdpdeiaaGreatDoor
open Go.RowKit CrcM
set_option maxRecDepth 100000

theorem take_set_mid {outs gs : List Sg} {k : Nat} (hol : outs.length = k) (x : Rk) : (((outs ++ gs.drop k).map (fun g : Sg => g.d.ref)).set k x).take k = outs.map (fun g : Sg => g.d.ref) := by
  rw [List.map_append, List.set_append_right _ _ (by rw [List.length_map]; omega), List.take_left' (by rw [List.length_map]; exact hol)]
theorem Dk.restart_all (D : Dk) : D.restart.1.all = D.all := by unfold Dk.restart; split <;> rfl
theorem Dk.cut_len (D : Dk) (n : Int) : (D.cut n).1.all.length ≤ D.all.length := by
  unfold Dk.cut
  split
  · exact Nat.le_refl _
  · split
    · exact Nat.le_refl _
    · simp only [List.length_take]; omega

section
variable {S H : Nat → Prop} {w : World} {b : Nat} {A : Option Addr} {c : Nat} {ps : List Nat}
set_option maxHeartbeats 2000000 in
theorem refLogRestart_B {L : Lg} {m : Nat} (h : RlogO S H w b A c ps L.ref) (hinv : L.inv m) :
    Calls Tryz.prog 73 #[.pointer (some ⟨b, 0, none⟩)] w (RlogDid S w (.pointer (some ⟨b, 0, none⟩)) (L.restart.1.ref, L.restart.2)) := by
  obtain ⟨ip, hip, hzp, hsp, hbp⟩ := info_parts info_pr
  have hsg := hinv.segs
  have hper : 1 ≤ L.per ∧ L.per ≤ 1024 := h.per
  obtain ⟨per, gs, dn⟩ := L
  simp only at hsg hper
  obtain ⟨c0, c1, c2, z1, z2, q1, q2, q3, q4⟩ := h.facts
  cases dn
  · have e : Lg.restart ⟨per, gs, false⟩ = (⟨per, gs, false⟩, 9) := by unfold Lg.restart; simp
    have E := Lib.hid e
    clear e q1
    go_enter Tryz.func73, Tryz.ntmps73
    go_wp2
    go_ret
    rw [E.out]
    exact ⟨rfl, h.same, Fr.refl _ _⟩
  · have e : Lg.restart ⟨per, gs, true⟩ = (⟨per, restartS per gs (-1), false⟩, 0) := by unfold Lg.restart; simp
    have E := Lib.hid e
    have HQ := Lib.hid (show ps.length = gs.length by rw [q1]; simp)
    have hS0 := h.hS
    have hbH := h.hb
    have hSl := h.lt
    have hHl : ∀ x, H x → x < w.heap.size := fun x hx => hSl x (hS0 x hx)
    obtain ⟨ho, f1⟩ := h.setDown false
    have hI0 : RestR S H w b A c ps per 0 (.slice none 0 0) (([] ++ gs.drop 0).map (fun g : Sg => g.d.ref)) H (w.setCell ⟨b, 2, none⟩ (.bool false)) :=
      ⟨f1, fun _ h => h, fun _ h => .inl h, fun x hx => ho.lt x (hS0 x hx), ho.blk, ho.row, Row.nil _ _ _, ho.disks.mono (fun _ _ hx => .inl hx) (fun _ _ _ h => h), ho.small⟩
    clear e q1
    go_enter Tryz.func73, Tryz.ntmps73
    go_wp2
    clear c0 c1 c2 z1 z2 ho f1
    generalize w.setCell ⟨b, 2, none⟩ (.bool false) = w0 at *
    go_loopw [3, 4, 5] (fun ov dv iv wr => ∃ (k : Nat) (A' : Option Addr) (c' : Nat) (outs : List Sg) (Hk : Nat → Prop) (d : Int), ov = .slice A' k c' ∧ dv = .int .i64 d ∧ iv = .int .i64 (k : Int) ∧ k ≤ ps.length ∧ RestR S H w b A c ps per k (.slice A' k c') ((outs ++ gs.drop k).map (fun g : Sg => g.d.ref)) Hk wr ∧ restartS per gs (-1) = outs ++ restartS per (gs.drop k) d ∧ outs.length = k) (fun _ _ iv _ => ps.length - (intOf iv).toNat)
    case atStart => exact ⟨0, none, 0, [], H, -1, rfl, rfl, rfl, Nat.zero_le _, hI0, rfl, rfl⟩
    case round =>
      obtain ⟨k, A', c', outs, Hk, d, rfl, rfl, rfl, hkl, hI, hrs, hol⟩ := hrel
      clear hI0
      have HRS := Lib.hid hrs
      have HOL := Lib.hid hol
      have x0 := hI.blk.cell 1 (v := .slice A ps.length c) rfl
      have x0f := hI.blk.frozen 1
      clear hrs hol
      by_cases hlt : k < ps.length
      · obtain ⟨g, hg⟩ : ∃ g, gs[k]? = some g := ⟨_, List.getElem?_eq_getElem (show k < gs.length by have := HQ.out; omega)⟩
        have hdr : gs.drop k = g :: gs.drop (k + 1) := drop_of hg
        have hgl : k < gs.length := (List.getElem?_eq_some_iff.1 hg).1
        obtain ⟨p, hp⟩ : ∃ p, ps[k]? = some p := ⟨_, List.getElem?_eq_getElem hlt⟩
        obtain ⟨ga, oa, rfl, -⟩ := hI.facts hp
        obtain ⟨u1, u2, u3, u4⟩ := hI.at_ hp
        have hpg : ((outs ++ gs.drop k).map (fun g : Sg => g.d.ref))[k]? = some g.d.ref := by rw [List.getElem?_map, at_mid HOL.out hg]; rfl
        obtain ⟨Sd, B1, e1, B2, e2, hd, hup⟩ := hI.disk hbH hp hpg
        have hsm0 := hI.small g.d.ref (List.mem_of_getElem? hpg)
        rw [ref_total] at hsm0
        have hok0 : g.d.ok := (hsg g (List.mem_of_getElem? hg)).dok hsm0
        have hRS : restartS per gs (-1) = outs ++ restartK per (scan g.d.restart.1 d) (restartS per (gs.drop (k + 1))) := by rw [HRS.out, hdr]; rfl
        have hD1 := (ref_restart (D := g.d)).1
        have hDup := Dk.restart_up g.d
        have hDok := Dk.ok_restart hok0
        have hsm1 : g.d.restart.1.all.length ≤ 4194304 := by rw [Dk.restart_all]; exact hsm0
        have hrB := refRestart_B hd
        unfold RefDid at hrB
        rw [← hD1] at hrB
        have hsp := scan_parse g.d.restart.1 d
        generalize hDD : g.d.restart.1 = D1 at *
        clear hDD hD1 hd hpg hsm0 hok0 hdr HRS
        have hset : (((outs ++ gs.drop k).map (fun g : Sg => g.d.ref)).set k D1.ref)[k]? = some D1.ref := List.getElem?_set_self (by rw [List.length_map, List.length_append, List.length_drop, HOL.out]; omega)
        have hrt : D1.ref.kept.length + D1.ref.rest.length ≤ 4194304 := by rw [ref_total]; exact hsm1
        have hRA : D1.ref.all = D1.all := ref_all D1
        obtain ⟨b8, hb8⟩ : ∃ l, D1.all = l := ⟨_, rfl⟩
        obtain ⟨n8, hn8⟩ : ∃ n, b8.length = n := ⟨_, rfl⟩
        rw [hb8] at hRA hsm1
        rw [hb8, hn8] at hsp
        rw [hn8] at hsm1
        have HRA := Lib.hid hRA
        have HN8 := Lib.hid hn8
        have HB8 := Lib.hid hb8
        obtain ⟨bs, rs, en, hpm⟩ : ∃ bs rs en, parseM b8 = (bs, rs, en) := ⟨_, _, _, rfl⟩
        rw [hpm] at hsp
        have HP := Lib.hid hpm
        have HD := Lib.hid hDup
        have HS := Lib.hid hset
        have HRS := Lib.hid hRS
        have hlt' : (k : Int) < (ps.length : Int) := by omega
        have k8 : IntKind.i64.wrap ((k : Int) + 1) = ((k + 1 : Nat) : Int) := by rw [IntKind.wrap_i64]; omega
        clear hRA hn8 hb8 hpm hset hRS hDup
        simp only at hsp
        rcases hsp with ⟨hbad, hsc⟩ | ⟨n, rfl, hdue, hle, hsc⟩
        · have hbad' : bs < 0 ∨ (¬ bs < 0 ∧ 0 ≤ d ∧ (bs != d) = true) := by
            by_cases hb0 : bs < 0
            · exact .inl hb0
            · obtain ⟨h1, h2⟩ := hbad.resolve_left hb0
              exact .inr ⟨hb0, h1, by simpa using h2⟩
          have HC := Lib.hid hsc
          clear hbad hsc
          rcases hbad' with j1 | ⟨j1, j2, j3⟩
          all_goals
            go_wp2_with (first
              | (go_at_call 133; refine hrB.mono ?_; rintro e w1 ⟨rfl, hd1, hf1⟩; have hI1 := hup w1 _ hf1 hd1 hrt; obtain ⟨x1, y1, -, -⟩ := hI1.at_ hp; obtain ⟨Sd1, B3, e3, B4, e4, hr1, -⟩ := hI1.disk hbH hp HS.out; have hal := refAll_B hr1 hrt; rw [HRA.out] at hal)
              | (go_at_call 80; refine hal.mono ?_; rintro e w2 ⟨A3, c3, rfl, ho3, hc3, hm3, hb2⟩; have hpa := parse_B w2 A3 b8 c3 ((Own.of_row' ho3).rd Non) hc3 (by rw [HN8.out]; omega); rw [HP.out] at hpa; unfold ParseDid at hpa; simp only at hpa; rw [HN8.out] at hpa hc3 ⊢)
              | (go_at_call 79; refine hpa.mono ?_; rintro e w3 ⟨R3, cr3, vals3, rfl, -, -, hb3⟩; have hI3 := hI1.below (hb2.trans (hb3.mono hb2.size)); obtain ⟨x3, y3, -, x3f⟩ := hI3.at_ hp))
            have hfin := hI3.finish hS0 hbH hSl hper q2 hkl
            rw [take_set_mid HOL.out] at hfin
            go_ret
            rw [E.out]
            refine ⟨rfl, ?_, hfin.2⟩
            have hout : restartS per gs (-1) = outs := by
              rw [HRS.out, HC.out]
              exact List.append_nil _
            show IsRlog _ _ _ ⟨per, (restartS per gs (-1)).map (fun g : Sg => g.d.ref), false⟩
            rw [hout]
            exact hfin.1
        · have hgk := (scan_ok hDok HD.out hsc).1
          have n1 := hgk.1
          have n2 := hgk.2.1
          simp only at n1 n2
          have j1 : ¬ (n : Int) < 0 := by omega
          have k9 : IntKind.i64.wrap ((n : Int) + (rs.length : Int)) = (n : Int) + (rs.length : Int) := by rw [IntKind.wrap_i64]; omega
          have HC := Lib.hid hsc
          have HGK := Lib.hid hgk
          clear hsc hgk
          have hdue' : ¬ 0 ≤ d ∨ (0 ≤ d ∧ ((n : Int) != d) = false) := by
            by_cases hd0 : 0 ≤ d
            · exact .inr ⟨hd0, by have : (n : Int) = d := by omega
                                  simpa using this⟩
            · exact .inl hd0
          obtain ⟨D2, hD2⟩ : ∃ D, (D1.cut en).1 = D := ⟨_, rfl⟩
          have hcu := (ref_cut (D := D1) (en : Int)).1
          have hct : D2.ref.kept.length + D2.ref.rest.length ≤ 4194304 := by
            rw [ref_total, ← hD2]
            exact Nat.le_trans (Dk.cut_len _ _) (by rw [HB8.out, HN8.out]; exact hsm1)
          rw [hD2] at hcu
          have hds : (((outs ++ gs.drop k).map (fun g : Sg => g.d.ref)).set k D1.ref).set k D2.ref = ((outs ++ [(⟨D2, n, rs, rs.length⟩ : Sg)]) ++ gs.drop (k + 1)).map (fun g : Sg => g.d.ref) := by
            rw [List.set_set, ← set_mid HOL.out hgl, List.map_set]
          have hRS2 : restartS per gs (-1) = (outs ++ [(⟨D2, n, rs, rs.length⟩ : Sg)]) ++ (if decide (en = n8) = false ∨ rs.length < per then [] else restartS per (gs.drop (k + 1)) ((n + rs.length : Nat) : Int)) := by
            rw [HRS.out, HC.out, hD2, List.append_assoc]
            rfl
          have htl : ((ps.take k).map ptr ++ [ptr p]).length = k + 1 := by rw [List.length_append, List.length_map, List.length_take, List.length_singleton]; omega
          have hm0 : ((ps.take k).map ptr).length = k := by rw [List.length_map, List.length_take]; omega
          have HM4 : ((ps.take k).map ptr).length + 1 ≤ maxLen := by rw [hm0]; unfold maxLen; omega
          have HM5 : (((ps.take k).map ptr).length + 1) * 8 ≤ 140737488355328 := by rw [hm0]; omega
          have HTL := Lib.hid htl
          have HCU := Lib.hid hcu
          have HDS := Lib.hid hds
          have HR2 := Lib.hid hRS2
          have hcase : (en : Int) < (n8 : Int) ∨ (¬ (en : Int) < (n8 : Int) ∧ (rs.length : Int) < (per : Int)) ∨ (¬ (en : Int) < (n8 : Int) ∧ ¬ (rs.length : Int) < (per : Int)) := by omega
          clear hdue hD2 hcu hds hRS2 htl hm0
          rcases hdue' with j2 | ⟨j2, j3⟩
          all_goals
            rcases hcase with t1 | ⟨t1, t2⟩ | ⟨t1, t2⟩
            · go_wp2_with (first
                | (go_at_call 133; refine hrB.mono ?_; rintro e w1 ⟨rfl, hd1, hf1⟩; have hI1 := hup w1 _ hf1 hd1 hrt; obtain ⟨x1, y1, -, -⟩ := hI1.at_ hp; obtain ⟨Sd1, B3, e3, B4, e4, hr1, -⟩ := hI1.disk hbH hp HS.out; have hal := refAll_B hr1 hrt; rw [HRA.out] at hal)
                | (go_at_call 80; refine hal.mono ?_; rintro e w2 ⟨A3, c3, rfl, ho3, hc3, hm3, hb2⟩; have hpa := parse_B w2 A3 b8 c3 ((Own.of_row' ho3).rd Non) hc3 (by rw [HN8.out]; omega); rw [HP.out] at hpa; unfold ParseDid at hpa; simp only at hpa; rw [HN8.out] at hpa hc3 ⊢)
                | (go_at_call 79; refine hpa.mono ?_; rintro e w3 ⟨R3, cr3, vals3, rfl, -, -, hb3⟩; have hI3 := hI1.below (hb2.trans (hb3.mono hb2.size)); obtain ⟨x3, y3, -, x3f⟩ := hI3.at_ hp; obtain ⟨Sd3, B5, e5, B6, e6, hr3, hup3⟩ := hI3.disk hbH hp HS.out; have hcut := refCut_B hr3 (en : Int); unfold RefDid at hcut; rw [← HCU.out] at hcut)
                | (go_at_call 134; refine hcut.mono ?_; rintro e w4 ⟨rfl, hd4, hf4⟩; have hI4 := hup3 w4 _ hf4 hd4 hct; rw [HDS.out] at hI4; obtain ⟨x4, y4, -, -⟩ := hI4.at_ hp; have hI4a := hI4.below (below_new w4 (.cells #[ptr p] TPr)))
                | (at_builtin; refine wpList_append_row rfl (.tmp 69) (.tmp 77) 38 rfl TPr ip _ 8 Tryz.underlying38 hip hzp hsp hbp rfl (.slice A' k c') ((ps.take k).map ptr) rfl hI4a.out ⟨w4.heap.size, 0, none⟩ (ptr p) rfl (heap_new_cell _ _ _) rfl HM4 HM5 (by decide) ?_; intro v5 w5 hrow5 hf5 hoth5; obtain ⟨A5, c5, rfl, hc5, hm5⟩ := hrow5.val; have hI5 := hI4a.more hSl hHl hbH hp hf5 hrow5; rw [HTL.out] at hI5 hc5 ⊢; obtain ⟨x5, -, z5, x5f⟩ := hI5.at_ hp))
              have hfin := hI5.finish hS0 hbH hSl hper q2 hlt
              have hte : (((outs ++ [(⟨D2, n, rs, rs.length⟩ : Sg)]) ++ gs.drop (k + 1)).map (fun g : Sg => g.d.ref)).take (k + 1) = (outs ++ [(⟨D2, n, rs, rs.length⟩ : Sg)]).map (fun g : Sg => g.d.ref) := by
                rw [List.map_append, List.take_left' (by rw [List.length_map, List.length_append, HOL.out]; rfl)]
              rw [hte] at hfin
              clear hte
              go_ret
              rw [E.out]
              refine ⟨rfl, ?_, hfin.2⟩
              have hout : restartS per gs (-1) = outs ++ [(⟨D2, n, rs, rs.length⟩ : Sg)] := by
                rw [HR2.out, if_pos (.inl (decide_eq_false (by omega)))]
                exact List.append_nil _
              show IsRlog _ _ _ ⟨per, (restartS per gs (-1)).map (fun g : Sg => g.d.ref), false⟩
              rw [hout]
              exact hfin.1
            · go_wp2_with (first
                | (go_at_call 133; refine hrB.mono ?_; rintro e w1 ⟨rfl, hd1, hf1⟩; have hI1 := hup w1 _ hf1 hd1 hrt; obtain ⟨x1, y1, -, -⟩ := hI1.at_ hp; obtain ⟨Sd1, B3, e3, B4, e4, hr1, -⟩ := hI1.disk hbH hp HS.out; have hal := refAll_B hr1 hrt; rw [HRA.out] at hal)
                | (go_at_call 80; refine hal.mono ?_; rintro e w2 ⟨A3, c3, rfl, ho3, hc3, hm3, hb2⟩; have hpa := parse_B w2 A3 b8 c3 ((Own.of_row' ho3).rd Non) hc3 (by rw [HN8.out]; omega); rw [HP.out] at hpa; unfold ParseDid at hpa; simp only at hpa; rw [HN8.out] at hpa hc3 ⊢)
                | (go_at_call 79; refine hpa.mono ?_; rintro e w3 ⟨R3, cr3, vals3, rfl, -, -, hb3⟩; have hI3 := hI1.below (hb2.trans (hb3.mono hb2.size)); obtain ⟨x3, y3, -, x3f⟩ := hI3.at_ hp; obtain ⟨Sd3, B5, e5, B6, e6, hr3, hup3⟩ := hI3.disk hbH hp HS.out; have hcut := refCut_B hr3 (en : Int); unfold RefDid at hcut; rw [← HCU.out] at hcut)
                | (go_at_call 134; refine hcut.mono ?_; rintro e w4 ⟨rfl, hd4, hf4⟩; have hI4 := hup3 w4 _ hf4 hd4 hct; rw [HDS.out] at hI4; obtain ⟨x4, y4, -, -⟩ := hI4.at_ hp; have hI4a := hI4.below (below_new w4 (.cells #[ptr p] TPr)))
                | (at_builtin; refine wpList_append_row rfl (.tmp 69) (.tmp 77) 38 rfl TPr ip _ 8 Tryz.underlying38 hip hzp hsp hbp rfl (.slice A' k c') ((ps.take k).map ptr) rfl hI4a.out ⟨w4.heap.size, 0, none⟩ (ptr p) rfl (heap_new_cell _ _ _) rfl HM4 HM5 (by decide) ?_; intro v5 w5 hrow5 hf5 hoth5; obtain ⟨A5, c5, rfl, hc5, hm5⟩ := hrow5.val; have hI5 := hI4a.more hSl hHl hbH hp hf5 hrow5; rw [HTL.out] at hI5 hc5 ⊢; obtain ⟨x5, -, z5, x5f⟩ := hI5.at_ hp))
              have hfin := hI5.finish hS0 hbH hSl hper q2 hlt
              have hte : (((outs ++ [(⟨D2, n, rs, rs.length⟩ : Sg)]) ++ gs.drop (k + 1)).map (fun g : Sg => g.d.ref)).take (k + 1) = (outs ++ [(⟨D2, n, rs, rs.length⟩ : Sg)]).map (fun g : Sg => g.d.ref) := by
                rw [List.map_append, List.take_left' (by rw [List.length_map, List.length_append, HOL.out]; rfl)]
              rw [hte] at hfin
              clear hte
              go_ret
              rw [E.out]
              refine ⟨rfl, ?_, hfin.2⟩
              have hout : restartS per gs (-1) = outs ++ [(⟨D2, n, rs, rs.length⟩ : Sg)] := by
                rw [HR2.out, if_pos (.inr (by omega))]
                exact List.append_nil _
              show IsRlog _ _ _ ⟨per, (restartS per gs (-1)).map (fun g : Sg => g.d.ref), false⟩
              rw [hout]
              exact hfin.1
            · go_wp2_with (first
                | (go_at_call 133; refine hrB.mono ?_; rintro e w1 ⟨rfl, hd1, hf1⟩; have hI1 := hup w1 _ hf1 hd1 hrt; obtain ⟨x1, y1, -, -⟩ := hI1.at_ hp; obtain ⟨Sd1, B3, e3, B4, e4, hr1, -⟩ := hI1.disk hbH hp HS.out; have hal := refAll_B hr1 hrt; rw [HRA.out] at hal)
                | (go_at_call 80; refine hal.mono ?_; rintro e w2 ⟨A3, c3, rfl, ho3, hc3, hm3, hb2⟩; have hpa := parse_B w2 A3 b8 c3 ((Own.of_row' ho3).rd Non) hc3 (by rw [HN8.out]; omega); rw [HP.out] at hpa; unfold ParseDid at hpa; simp only at hpa; rw [HN8.out] at hpa hc3 ⊢)
                | (go_at_call 79; refine hpa.mono ?_; rintro e w3 ⟨R3, cr3, vals3, rfl, -, -, hb3⟩; have hI3 := hI1.below (hb2.trans (hb3.mono hb2.size)); obtain ⟨x3, y3, -, x3f⟩ := hI3.at_ hp; obtain ⟨Sd3, B5, e5, B6, e6, hr3, hup3⟩ := hI3.disk hbH hp HS.out; have hcut := refCut_B hr3 (en : Int); unfold RefDid at hcut; rw [← HCU.out] at hcut)
                | (go_at_call 134; refine hcut.mono ?_; rintro e w4 ⟨rfl, hd4, hf4⟩; have hI4 := hup3 w4 _ hf4 hd4 hct; rw [HDS.out] at hI4; obtain ⟨x4, y4, -, -⟩ := hI4.at_ hp; have hI4a := hI4.below (below_new w4 (.cells #[ptr p] TPr)))
                | (at_builtin; refine wpList_append_row rfl (.tmp 69) (.tmp 77) 38 rfl TPr ip _ 8 Tryz.underlying38 hip hzp hsp hbp rfl (.slice A' k c') ((ps.take k).map ptr) rfl hI4a.out ⟨w4.heap.size, 0, none⟩ (ptr p) rfl (heap_new_cell _ _ _) rfl HM4 HM5 (by decide) ?_; intro v5 w5 hrow5 hf5 hoth5; obtain ⟨A5, c5, rfl, hc5, hm5⟩ := hrow5.val; have hI5 := hI4a.more hSl hHl hbH hp hf5 hrow5; rw [HTL.out] at hI5 hc5 ⊢; obtain ⟨x5, -, z5, x5f⟩ := hI5.at_ hp))
              go_roundw
              case rel =>
                refine ⟨k + 1, A5, c5, outs ++ [(⟨D2, n, rs, rs.length⟩ : Sg)], _, ((n + rs.length : Nat) : Int), rfl, by go_num, by go_num, hlt, hI5, ?_, by rw [List.length_append, HOL.out]; rfl⟩
                rw [HR2.out, if_neg (fun hh => ?_)]
                rcases hh with hh | hh
                · have := of_decide_eq_false hh
                  omega
                · omega
              case measure => simp [intOf]; omega
      · obtain rfl : k = ps.length := by omega
        have hfin := hI.finish hS0 hbH hSl hper q2 (Nat.le_refl _)
        have hfe : ((outs ++ gs.drop ps.length).map (fun g : Sg => g.d.ref)).take ps.length = outs.map (fun g : Sg => g.d.ref) := by
          rw [List.map_append, List.take_left' (by rw [List.length_map]; exact HOL.out)]
        rw [hfe] at hfin
        have hout : restartS per gs (-1) = outs := by
          rw [HRS.out, List.drop_of_length_le (by rw [HQ.out]; exact Nat.le_refl _)]
          exact List.append_nil _
        have HO := Lib.hid hout
        clear hfe hout
        go_wp2
        go_ret
        rw [E.out]
        refine ⟨rfl, ?_, hfin.2⟩
        show IsRlog _ _ _ ⟨per, (restartS per gs (-1)).map (fun g : Sg => g.d.ref), false⟩
        rw [HO.out]
        exact hfin.1
end
end Go.Proofs.YtediidajdpdeiaaGreatDoor

/- The document's store (layer 8): State, Base, Promise, Forget; the walks. -/
namespace Go.Proofs.YtediidajdpdeiaaGreatDoor
open Go.RowKit CrcM
set_option maxRecDepth 100000

/-- block r is the document's store -/
def IsRef8 [Hole] (T : Nat → Prop) (w : World) (r per : Nat) (L : Lg) (st0 : St) : Prop := ∃ T1 T2 H lr A1 c1 ps A2 c2, RefO T T1 T2 H w r lr A1 c1 ps A2 c2 per L st0
/-- WHAT a change of the document's store leaves -/
def RefDid8 [Hole] (T : Nat → Prop) (w : World) (r per : Nat) (L : Lg) (st0 : St) (n : Int) (e : Ending) (w' : World) : Prop := e = .returned (.int .i64 n) ∧ IsRef8 (Up T w w') w' r per L st0 ∧ Fr T w w'
section
variable [Hole] {T T1 T2 H : Nat → Prop} {w w' : World} {r lr : Nat} {A1 : Option Addr} {c1 : Nat} {ps : List Nat} {A2 : Option Addr} {c2 : Nat} {per : Nat} {L : Lg} {st0 : St}
theorem RefO.below (h : RefO T T1 T2 H w r lr A1 c1 ps A2 c2 per L st0) (hb : Below w.heap.size w w') : RefO T T1 T2 H w' r lr A1 c1 ps A2 c2 per L st0 :=
  ⟨h.blk.below' hb, h.log.below hb, h.snap.below hb, h.t1, h.t2, h.hr, h.d1, h.d2, h.d12, fun x hx => Nat.lt_of_lt_of_le (h.lt x hx) hb.size⟩
theorem RefO.up (h : RefO T T1 T2 H w r lr A1 c1 ps A2 c2 per L st0) (hb : Below w.heap.size w w') : IsRef8 (Up T w w') w' r per L st0 := by
  have h' := h.below hb
  exact ⟨T1, T2, H, lr, A1, c1, ps, A2, c2, h'.blk, h'.log, h'.snap, fun x hx => .inl (h.t1 x hx), fun x hx => .inl (h.t2 x hx), .inl h.hr, h.d1, h.d2, h.d12, Up.lt h.lt hb.size⟩
theorem RefO.did (h : RefO T T1 T2 H w r lr A1 c1 ps A2 c2 per L st0) (hb : Below w.heap.size w w') (n : Int) : RefDid8 T w r per L st0 n (.returned (.int .i64 n)) w' := ⟨rfl, h.up hb, Fr.of_below hb⟩
/-- the log turns -/
theorem RefO.turn (h : RefO T T1 T2 H w r lr A1 c1 ps A2 c2 per L st0) {L' : Lg} (hl : IsRlog (Up T1 w w') w' (.pointer (some ⟨lr, 0, none⟩)) L'.ref) (f : Fr T1 w w') : IsRef8 (Up T w w') w' r per L' st0 ∧ Fr T w w' := by
  obtain ⟨H', lr', A', c', ps', e, hl⟩ := hl
  injection e with e
  injection e with e
  injection e with e
  subst e
  have hlt : ∀ x, T x → ¬ Nw w w' x := fun x hx hn => by have := h.lt x hx; have := hn.1; omega
  exact ⟨⟨Up T1 w w', T2, H', lr, A', c', ps', A2, c2, h.blk.fr f h.d1, hl, h.snap.xk (fun x hx => f.out x (h.lt x (h.t2 x hx)) (fun q => h.d12 x q hx)) f.byt, fun x hx => hx.imp_left (h.t1 x), fun x hx => .inl (h.t2 x hx), .inl h.hr, fun hx => hx.elim h.d1 (hlt _ h.hr), h.d2, fun x hx hy => hx.elim (fun hx => h.d12 x hx hy) (hlt x (h.t2 x hy)), Up.lt h.lt f.size⟩, f.mono (fun x _ hx => h.t1 x hx)⟩
/-- after new blocks -/
theorem RefDid8.from {w1 : World} {n : Int} {e : Ending} (hb : Below w.heap.size w w1) (hl : ∀ x, T x → x < w.heap.size) (h : RefDid8 T w1 r per L st0 n e w') : RefDid8 T w r per L st0 n e w' := by
  obtain ⟨h1, ⟨T1, T2, H, lr, A1, c1, ps, A2, c2, h2⟩, h3⟩ := h
  refine ⟨h1, ⟨T1, T2, H, lr, A1, c1, ps, A2, c2, h2.blk, h2.log, h2.snap, fun x hx => ?_, fun x hx => ?_, ?_, h2.d1, h2.d2, h2.d12, fun x hx => ?_⟩, (Fr.of_below (S := T) hb).trans' h3 (fun _ _ h => h)⟩
  · exact (h2.t1 x hx).imp_right fun q => ⟨Nat.le_trans hb.size q.1, q.2⟩
  · exact (h2.t2 x hx).imp_right fun q => ⟨Nat.le_trans hb.size q.1, q.2⟩
  · exact (h2.hr).imp_right fun q => ⟨Nat.le_trans hb.size q.1, q.2⟩
  · rcases hx with hx | hx
    · exact Nat.lt_of_lt_of_le (hl x hx) (Nat.le_trans hb.size h3.size)
    · exact hx.2
end

theorem num_B8 (w : World) (n : Int) : Calls Tryz.prog 117 #[.int .i64 n] w fun e w' => e = .returned (.bool (decide (numOk n))) ∧ w = w' := by
  rcases (show (0 ≤ n ∧ n ≤ 1099511627776) ∨ (¬ 0 ≤ n) ∨ (0 ≤ n ∧ ¬ n ≤ 1099511627776) by omega) with ⟨g1, g2⟩ | g1 | ⟨g1, g2⟩
  · have HD := Lib.hid (show decide (numOk n) = true from decide_eq_true ⟨g1, g2⟩)
    go_enter Tryz.func117, Tryz.ntmps117
    go_wp2
    go_ret
    exact ⟨by rw [HD.out]; rfl, rfl⟩
  · have HD := Lib.hid (show decide (numOk n) = false from decide_eq_false (fun q => g1 q.1))
    go_enter Tryz.func117, Tryz.ntmps117
    go_wp2
    go_ret
    exact ⟨by rw [HD.out]; rfl, rfl⟩
  · have HD := Lib.hid (show decide (numOk n) = false from decide_eq_false (fun q => g2 q.2))
    go_enter Tryz.func117, Tryz.ntmps117
    go_wp2
    go_ret
    exact ⟨by rw [HD.out]; rfl, rfl⟩

section
variable {T T1 T2 H : Nat → Prop} {w w' : World} {r lr : Nat} {A1 : Option Addr} {c1 : Nat} {ps : List Nat} {A2 : Option Addr} {c2 : Nat} {per : Nat} {s : So} {st0 : St} {rcs : List Rc} {m n : Nat}
/-- All of a store that is up -/
theorem all_S8 (h : RefO T T1 T2 H w r lr A1 c1 ps A2 c2 per s.log st0) (hi : s.inv m n st0 rcs) (hd : s.log.down = false) :
    Calls Tryz.prog 76 #[.pointer (some ⟨r, 0, none⟩)] w (AllDid8 T2 w s.st) := by
  have hsm := hi.small
  have hfew := hi.few
  have := all_B8 h hi.log (by omega) (by rw [Lg.recs_eq hd, hi.recs]) (fun rc hrc => (hi.rok rc hrc).1) hi.ok0.ok (by omega)
  rw [← hi.up hd] at this
  exact this
def StateDid (T2 : Nat → Prop) (w : World) (st : St) (e : Ending) (w' : World) : Prop := ∃ X A c, e = .returned (.tuple #[.int .i64 (st.promised : Int), .slice A st.slots.length c]) ∧ HeldS X w' A c st.slots ∧ (∀ x, X x → T2 x ∨ w.heap.size ≤ x) ∧ Below w.heap.size w w'
theorem state_S8 (h : RefO T T1 T2 H w r lr A1 c1 ps A2 c2 per s.log st0) (hi : s.inv m n st0 rcs) (hd : s.log.down = false) :
    Calls Tryz.prog 17 #[.pointer (some ⟨r, 0, none⟩)] w (StateDid T2 w s.st) := by
  have ha := all_S8 h hi hd
  clear h hi hd
  go_enter Tryz.func17, Tryz.ntmps17
  go_wp2_with (go_at_call 76; refine ha.mono ?_; rintro e w1 ⟨X, A, c, rfl, hH, hX, hb⟩)
  go_ret2
  exact ⟨X, A, c, rfl, hH, hX, hb⟩
theorem base_S8 (h : RefO T T1 T2 H w r lr A1 c1 ps A2 c2 per s.log st0) (hi : s.inv m n st0 rcs) (hd : s.log.down = false) :
    Calls Tryz.prog 18 #[.pointer (some ⟨r, 0, none⟩)] w (Told w (.int .i64 (s.st.base : Int))) := by
  have ha := all_S8 h hi hd
  clear h hi hd
  go_enter Tryz.func18, Tryz.ntmps18
  go_wp2_with (go_at_call 76; refine ha.mono ?_; rintro e w1 ⟨X, A, c, rfl, hH, hX, hb⟩)
  go_ret
  exact ⟨rfl, hb⟩
/-- a record is laid onto the document's log -/
theorem RefO.append [Hole] (h : RefO T T1 T2 H w r lr A1 c1 ps A2 c2 per s.log st0) (hi : s.inv m n st0 rcs) (B : Option Addr) (rec : List UInt8) (cb : Nat) (hr : Own Ever w B rec) (hrl : rec.length ≤ 400) (hc : rec.length ≤ cb) (hm : cb ≤ maxLen) :
    Calls Tryz.prog 119 #[.pointer (some ⟨lr, 0, none⟩), .slice B rec.length cb] w fun e w' => e = .returned (.tuple #[.int .i64 ((s.log.append rec).2.1 : Int), .int .i64 (s.log.append rec).2.2]) ∧ IsRef8 (Up T w w') w' r per (s.log.append rec).1 st0 ∧ Fr T w w' := by
  have hsm := hi.small
  refine (refLogAppend_B h.log hi.log (by omega) B rec cb (hr.rd T1) hrl hc hm).mono ?_
  rintro e w' ⟨h1, h2, h3⟩
  exact ⟨h1, h.turn h2 h3⟩
end
end Go.Proofs.YtediidajdpdeiaaGreatDoor

/- A store and the document's store, where a row of bytes that is none of theirs turns (layer 8). -/
namespace Go.Proofs.YtediidajdpdeiaaGreatDoor
open Go.RowKit CrcM
set_option maxRecDepth 100000

section
variable {q : Nat} {w w' : World} {S S1 S2 X : Nat → Prop}
theorem Own.held {Y : Nat → Prop} {A : Option Addr} {l : List UInt8} (h : Own Y w A l) (hq : w.heap.size ≤ q) : Own (fun x => x ≠ q) w A l := fun j y hy => by
  obtain ⟨ad, e, hc, hb, hs⟩ := h j y hy
  exact ⟨ad, e, hc, hb, fun e' => by have := hb.lt; omega⟩
theorem SlotsAt.hold {b : Nat} {M : Slots} (h : SlotsAt w b M) (hb : Below w.heap.size w w') (hq : w.heap.size ≤ q) : @SlotsAt (holeAt q) w' b M := by
  have h' : @SlotsAt (holeAt q) w b M := by
    obtain ⟨Z, h1, h2, h3, h4⟩ := h
    refine ⟨Z, h1, h2, fun z hz => ?_, h4⟩
    obtain ⟨A, c, e, k1, k2, k3⟩ := h3 z hz
    exact ⟨A, c, e, k1, k2, k3.held hq⟩
  exact @SlotsAt.below (holeAt q) w w' b M h' hb
theorem Mut.slots {b : Nat} {M : Slots} (m : Mut q w w') (h : @SlotsAt (holeAt q) w b M) (hb : b ≠ q) : SlotsAt w' b M := by
  obtain ⟨Z, h1, h2, h3, h4⟩ := h
  refine ⟨Z, ownsMap_same h1 (m.out b hb), h2, fun z hz => ?_, h4⟩
  obtain ⟨A, c, e, k1, k2, k3⟩ := h3 z hz
  exact ⟨A, c, e, k1, k2, Own.mono (m.own k3 (fun hh => hh rfl)) (fun _ _ => trivial)⟩
theorem LogAt.hold {b : Nat} {L : Lg} (h : LogAt S w b L) (hb : Below w.heap.size w w') (hq : w.heap.size ≤ q) (hq' : q < w'.heap.size) : @LogAt (holeAt q) S w' b L := by
  obtain ⟨hu, H, A, c, ps, hl⟩ := h
  exact ⟨hu, H, A, c, ps, hl.hold hb hq hq'⟩
theorem Mut.logAt {b : Nat} {L : Lg} (m : Mut q w w') (h : @LogAt (holeAt q) S w b L) (hS : ¬ S q) : LogAt S w' b L := by
  obtain ⟨hu, H, A, c, ps, hl⟩ := h
  exact ⟨hu, H, A, c, ps, m.log hl hS⟩
theorem SoO.hold {b lb db mb : Nat} {s : So} (h : SoO S S1 S2 w b lb db mb s) (hb : Below w.heap.size w w') (hq : w.heap.size ≤ q) (hq' : q < w'.heap.size) : @SoO (holeAt q) S S1 S2 w' b lb db mb s := by
  have h' := h.below hb
  exact @SoO.mk (holeAt q) S S1 S2 w' b lb db mb s h'.blk (h.log.hold hb hq hq') h'.snap (h.map.hold hb hq) h.h1 h.h2 h.hb h.hm h.d12 h.d1 h.d2 h'.lt h.per h.ok
theorem Mut.so {b lb db mb : Nat} {s : So} (m : Mut q w w') (h : @SoO (holeAt q) S S1 S2 w b lb db mb s) (hS : ¬ S q) : SoO S S1 S2 w' b lb db mb s := by
  obtain ⟨e1, e2, ⟨A, c, hd⟩, e4, e5, e6, e7, e8, e9, e10, e11, e12, e13, e14⟩ := h
  exact ⟨m.blk e1 (Mut.ne hS e7), m.logAt e2 (fun hx => hS (e5 q hx)), ⟨A, c, m.disk hd (fun hx => hS (e6 q hx))⟩, m.slots e4 (Mut.ne hS e8), e5, e6, e7, e8, e9, e10, e11, fun x hx => by rw [m.size]; exact e12 x hx, e13, e14⟩
theorem HeldS.hold {A : Option Addr} {c : Nat} {H : Slots} (h : HeldS X w A c H) (hb : Below w.heap.size w w') (hq : w.heap.size ≤ q) : @HeldS (holeAt q) X w' A c H := by
  have h' : @HeldS (holeAt q) X w A c H := by
    obtain ⟨h1, h2, xs, h3, h4⟩ := h
    refine ⟨h1, h2, xs, @HeldRw.mk (holeAt q) w xs H h3.len (fun j p hp => ?_), h4⟩
    obtain ⟨B, cb, k1, k2, k3, k4, k5, k6⟩ := h3.each j p hp
    exact ⟨B, cb, k1, k2, k3, k4, k5, k6.held hq⟩
  exact @HeldS.below (holeAt q) X w w' A c H h' hb
theorem Mut.heldS {A : Option Addr} {c : Nat} {H : Slots} (m : Mut q w w') (h : @HeldS (holeAt q) X w A c H) (hX : ¬ X q) : HeldS X w' A c H := by
  obtain ⟨h1, h2, xs, ⟨hln, hea⟩, h4⟩ := h
  refine ⟨h1, h2, xs, ⟨hln, fun j p hp => ?_⟩, h4.imp_right ?_⟩
  · obtain ⟨B, cb, k1, k2, k3, k4, k5, k6⟩ := hea j p hp
    exact ⟨B, cb, k1, k2, k3, k4, k5, Own.mono (m.own k6 (fun hh => hh rfl)) (fun _ _ => trivial)⟩
  · rintro ⟨g, o, cur, e, hg, hc, hj⟩
    exact ⟨g, o, cur, e, hg, (m.out g (Mut.ne hX hg)).trans hc, hj⟩
theorem IsRef8.hold {T : Nat → Prop} {r per : Nat} {L : Lg} {st0 : St} (h : IsRef8 T w r per L st0) (hb : Below w.heap.size w w') (hq : w.heap.size ≤ q) : @IsRef8 (holeAt q) T w' r per L st0 := by
  obtain ⟨T1, T2, H, lr, A1, c1, ps, A2, c2, h⟩ := h
  have h' := h.below hb
  exact ⟨T1, T2, H, lr, A1, c1, ps, A2, c2, @RefO.mk (holeAt q) T T1 T2 H w' r lr A1 c1 ps A2 c2 per L st0 h'.blk h'.log (h.snap.hold hb hq) h.t1 h.t2 h.hr h.d1 h.d2 h.d12 h'.lt⟩
theorem Mut.isRef {T : Nat → Prop} {r per : Nat} {L : Lg} {st0 : St} (m : Mut q w w') (h : @IsRef8 (holeAt q) T w r per L st0) (hT : ¬ T q) : IsRef8 T w' r per L st0 := by
  obtain ⟨T1, T2, H, lr, A1, c1, ps, A2, c2, ⟨e1, e2, e3, e4, e5, e6, e7, e8, e9, e10⟩⟩ := h
  exact ⟨T1, T2, H, lr, A1, c1, ps, A2, c2, m.blk e1 (Mut.ne hT e6), m.rlog e2 (fun hx => hT (e4 q hx)), m.heldS e3 (fun hx => hT (e5 q hx)), e4, e5, e6, e7, e8, e9, fun x hx => by rw [m.size]; exact e10 x hx⟩
end
end Go.Proofs.YtediidajdpdeiaaGreatDoor

/- A log and the document's log side by side (layer 7), in memory. -/
namespace Go.Proofs.YtediidajdpdeiaaGreatDoor
open Go.RowKit CrcM
set_option maxRecDepth 100000

/-- a log b and the document's log r, each for itself, newer than the law's beginning -/
def BothG (W w : World) (b r : Nat) (L : Lg) (R : Rg) : Prop := ∃ T H A c ps, LiveG W w b L T ∧ RlogO T H w r A c ps R ∧ ∀ x, T x → W.heap.size ≤ x

section
variable {W w w' : World} {b r : Nat} {L : Lg} {R : Rg} {X : Nat → Prop}
theorem RlogO.keep {T H : Nat → Prop} {A : Option Addr} {c : Nat} {ps : List Nat} (h : RlogO T H w r A c ps R) (hk : ∀ x, T x → w'.heap[x]? = w.heap[x]?) (hs : ∀ x, T x → x < w'.heap.size) : RlogO T H w' r A c ps R := by
  refine ⟨h.hS, h.hb, h.blk.eq (hk _ (h.hS _ h.hb)), h.row.same (fun x hx => hk x (h.hS x hx)), ?_, hs, h.per, h.few, h.small⟩
  obtain ⟨F, h1, h2, h3, h4⟩ := h.disks
  refine ⟨F, fun i x hx => ⟨(h1 i x hx).1, (h1 i x hx).2.1, hs x (h1 i x hx).1⟩, fun i j x n p q => (h2 i j x n p q).eq (hk x (h1 i x p).1), h3, fun i p g hp hg => ?_⟩
  obtain ⟨A1, c1, A2, c2, hr⟩ := h4 i p g hp hg
  have hF : ∀ x, F i x → w'.heap[x]? = w.heap[x]? := fun x hx => hk x (h1 i x hx).1
  have hO : ∀ {A : Option Addr} {l : List UInt8}, Own (F i) w A l → Own (F i) w' A l := fun h j x hx => by
    obtain ⟨ad, e, hc, hb, hS⟩ := h j x hx
    exact ⟨ad, e, (cell_eq (by rw [add_block]; exact hF _ hS)).trans hc, hb.eq (hF _ hS), hS⟩
  exact ⟨A1, c1, A2, c2, hr.blk.eq (hF _ hr.inS), hO hr.own1, hO hr.own2, hr.inS, fun x hx => hs x (h1 i x hx).1, hr.cap1, hr.cap2, hr.ok⟩
theorem BothG.below (h : BothG W w b r L R) : Below W.heap.size W w := by
  obtain ⟨T, H, A, c, ps, h1, -⟩ := h
  exact h1.below
theorem BothG.mono (h : BothG W w b r L R) (f : Below w.heap.size w w') : BothG W w' b r L R := by
  obtain ⟨T, H, A, c, ps, h1, h2, h3⟩ := h
  exact ⟨T, H, A, c, ps, h1.mono' f, h2.below f, h3⟩
/-- the log turns -/
theorem BothG.seg (h : BothG W w b r L R) {f : Nat} {args : Array Value} {q : Lg × Int} (hc : ∀ T, LiveG W w b L T → Calls Tryz.prog f args w (LiveGDid W w b T q)) :
    Calls Tryz.prog f args w fun e w' => e = .returned (.int .i64 q.2) ∧ BothG W w' b r q.1 R := by
  obtain ⟨T, H, A, c, ps, h1, h2, h3⟩ := h
  refine (hc T h1).mono ?_
  rintro e w' ⟨h4, h5, h6, h7⟩
  exact ⟨h4, T, H, A, c, ps, h5, h2.keep h6 h5.ltX, h3⟩
/-- the document's log turns -/
theorem BothG.turn (h : BothG W w b r L R) {f : Nat} {args : Array Value} {q : Rg × Int} (hc : ∀ T H A c ps, RlogO T H w r A c ps R → Calls Tryz.prog f args w (RlogDid T w (.pointer (some ⟨r, 0, none⟩)) q)) :
    Calls Tryz.prog f args w fun e w' => e = .returned (.int .i64 q.2) ∧ BothG W w' b r L q.1 := by
  obtain ⟨T, H, A, c, ps, ⟨S, hl, hS, hb, hX⟩, h2, h3⟩ := h
  refine (hc T H A c ps h2).mono ?_
  rintro e w' ⟨h4, ⟨H', r', A', c', ps', e, h5⟩, h6⟩
  injection e with e
  injection e with e
  injection e with e
  subst e
  refine ⟨h4, _, H', A', c', ps', ⟨S, hl.fr h6 (fun x hx hy => ((hX x hy).1 hx).elim), hS, ⟨h6.os.trans hb.os, h6.tape.trans hb.tape, h6.output.trans hb.output, Nat.le_trans hb.size h6.size, fun k hk => (h6.out k (Nat.lt_of_lt_of_le hk hb.size) fun hh => by have := h3 k hh; omega).trans (hb.block k hk)⟩, fun x hx => ⟨fun hs => ?_, h5.lt x hx⟩⟩, h5, fun x hx => ?_⟩
  · rcases hx with hx | hx
    · exact (hX x hx).1 hs
    · obtain ⟨_, _, _, _, _, hlo⟩ := hl
      have := hlo.lt x hs
      have := hx.1
      omega
  · rcases hx with hx | hx
    · exact h3 x hx
    · exact Nat.le_trans hb.size hx.1
/-- a call that tells of the document's log -/
theorem BothG.asks (h : BothG W w b r L R) {f : Nat} {args : Array Value} {v : Value} (hc : ∀ T H A c ps, RlogO T H w r A c ps R → Calls Tryz.prog f args w (Told w v)) :
    Calls Tryz.prog f args w fun e w' => e = .returned v ∧ BothG W w' b r L R ∧ Below w.heap.size w w' := by
  have h' := h
  obtain ⟨T, H, A, c, ps, h1, h2, h3⟩ := h
  exact (hc T H A c ps h2).mono fun e w' ⟨h4, h5⟩ => ⟨h4, h'.mono h5, h5⟩
end

/-- as BothG, where no record lies in the row q, which is newer than the law's beginning and none of both logs' -/
def BothH (q : Nat) (W w : World) (b r : Nat) (L : Lg) (R : Rg) : Prop := ∃ S T H A c ps, @LogAt (holeAt q) S w b L ∧ RlogO T H w r A c ps R ∧ (∀ x, S x → W.heap.size ≤ x) ∧ (∀ x, T x → W.heap.size ≤ x) ∧ (∀ x, T x → ¬ S x) ∧ ¬ S q ∧ ¬ T q ∧ W.heap.size ≤ q ∧ q < w.heap.size ∧ Below W.heap.size W w
section
variable {q : Nat} {W w w' : World} {b r : Nat} {L : Lg} {R : Rg}
theorem BothH.below (h : BothH q W w b r L R) : Below W.heap.size W w := by
  obtain ⟨S, T, H, A, c, ps, h1, h2, h3, h4, h5, h6, h7, h8, h9, h10⟩ := h
  exact h10
theorem BothG.hold (h : BothG W w b r L R) (hb : Below w.heap.size w w') (hq : w.heap.size ≤ q) (hq' : q < w'.heap.size) : BothH q W w' b r L R := by
  obtain ⟨T, H, A, c, ps, ⟨S, ⟨hu, H1, A1, c1, ps1, hl⟩, hS, hbl, hX⟩, h2, h3⟩ := h
  exact ⟨S, T, H, A, c, ps, ⟨hu, H1, A1, c1, ps1, hl.hold hb hq hq'⟩, h2.below hb, hS, h3, fun x hx => (hX x hx).1, fun hh => by have := hl.lt q hh; omega, fun hh => by have := h2.lt q hh; omega, Nat.le_trans hbl.size hq, hq', hbl.trans (hb.mono hbl.size)⟩
theorem BothH.free (h : BothH q W w b r L R) (m : Mut q w w') : BothG W w' b r L R := by
  obtain ⟨S, T, H, A, c, ps, ⟨hu, H1, A1, c1, ps1, hl⟩, h2, h3, h4, h5, h6, h7, h8, h9, h10⟩ := h
  exact ⟨T, H, A, c, ps, ⟨S, ⟨hu, H1, A1, c1, ps1, m.log hl h6⟩, h3, ⟨m.os.trans h10.os, m.tape.trans h10.tape, m.output.trans h10.output, by rw [m.size]; exact h10.size, fun k hk => (m.out k (by omega)).trans (h10.block k hk)⟩, fun x hx => ⟨h5 x hx, by rw [m.size]; exact h2.lt x hx⟩⟩, m.rlog h2 h7, h4⟩
theorem BothH.mono (h : BothH q W w b r L R) (f : Below w.heap.size w w') : BothH q W w' b r L R := by
  obtain ⟨S, T, H, A, c, ps, ⟨hu, H1, A1, c1, ps1, hl⟩, h2, h3, h4, h5, h6, h7, h8, h9, h10⟩ := h
  exact ⟨S, T, H, A, c, ps, ⟨hu, H1, A1, c1, ps1, @LogO.below (holeAt q) S H1 w w' b A1 c1 ps1 L hl f⟩, h2.below f, h3, h4, h5, h6, h7, h8, Nat.lt_of_lt_of_le h9 f.size, h10.trans (f.mono h10.size)⟩
theorem BothH.append (h : BothH q W w b r L R) (hh : HalfAt W) (hlen : L.len ≤ 4611686018427387904) (B : Option Addr) (rec : List UInt8) (cb : Nat) (hr : Own Ever w B rec) (hrl : rec.length ≤ 70368744177664) :
    Calls Tryz.prog 55 #[.pointer (some ⟨b, 0, none⟩), .slice B rec.length cb] w fun e w' => e = .returned (.tuple #[.int .i64 ((L.append rec).2.1 : Int), .int .i64 (L.append rec).2.2]) ∧ BothH q W w' b r (L.append rec).1 R ∧ BK w w' := by
  obtain ⟨S, T, H, A, c, ps, ⟨hu, H1, A1, c1, ps1, hl⟩, h2, h3, h4, h5, h6, h7, h8, h9, h10⟩ := h
  refine (@appendL (holeAt q) S H1 w b A1 c1 ps1 L hl hu (hh.below h10 hh.lt) hlen B rec cb (hr.rd S) hrl).mono ?_
  rintro e w' ⟨k1, ⟨b', e', k2⟩, k3⟩
  injection e' with e'
  injection e' with e'
  injection e' with e'
  subst e'
  have hs := k3.size
  refine ⟨k1, ⟨_, T, H, A, c, ps, k2, h2.keep (fun x hx => k3.out x (h2.lt x hx) (h5 x hx)) (fun x hx => Nat.lt_of_lt_of_le (h2.lt x hx) hs), fun x hx => hx.elim (h3 x) (fun k => Nat.le_trans h10.size k.1), h4, fun x hx hx' => hx'.elim (h5 x hx) (fun k => by have := h2.lt x hx; have := k.1; omega), fun hx => hx.elim h6 (fun k => by have := k.1; omega), h7, h8, Nat.lt_of_lt_of_le h9 hs, ?_⟩, k3.byt⟩
  exact ⟨k3.os.trans h10.os, k3.tape.trans h10.tape, k3.output.trans h10.output, Nat.le_trans h10.size hs, fun k hk => (k3.out k (Nat.lt_of_lt_of_le hk h10.size) fun hh => by have := h3 k hh; omega).trans (h10.block k hk)⟩
end
end Go.Proofs.YtediidajdpdeiaaGreatDoor

/- The document's store (layer 8): Promise, Forget, Accept; the walks. -/
namespace Go.Proofs.YtediidajdpdeiaaGreatDoor
open Go.RowKit CrcM
set_option maxRecDepth 100000

def NumX (w : World) (l : List UInt8) (e : Ending) (w' : World) : Prop := ∃ A c, e = .returned (.tuple #[.slice A l.length c, .int .i64 0]) ∧ Own Ever w' A l ∧ l.length ≤ c ∧ c ≤ maxLen ∧ Below w.heap.size w w'
theorem numX_B (w : World) (x : UInt8) (v : Value) (hv : v = byteV x) (k : Nat) (hk : k ≤ 1099511627776) :
    Calls Tryz.prog 118 #[.slice (some ⟨w.heap.size, 0, none⟩) 1 1, .int .i64 (k : Int)] (w.alloc (.cells #[v] TB)) (NumX w (x :: numB k)) := by
  subst hv
  have hb := below_new w (.cells #[byteV x] TB)
  have hO : Own Ever (w.alloc (.cells #[byteV x] TB)) (some ⟨w.heap.size, 0, none⟩) [x] := Own.of_cells Ever (heap_alloc_new _ _) (l := [x]) trivial rfl
  refine (refNum_B (w.alloc (.cells #[byteV x] TB)) (some ⟨w.heap.size, 0, none⟩) 1 [x] (hO.rd Non) (by simp) k (by omega)).mono ?_
  rintro e w' ⟨v', rfl, ho, hb2⟩
  obtain ⟨A, c, rfl, hc, hm⟩ := own_val ho
  exact ⟨A, c, rfl, (Own.of_row ho rfl).mono (fun _ _ => trivial), hc, hm, hb.trans (hb2.mono hb.size)⟩
theorem numY_B (w : World) (A : Option Addr) (c : Nat) (l : List UInt8) (hO : Own Ever w A l) (hl : l.length ≤ 70368744177664) (k : Nat) (hk : k ≤ 1099511627776) :
    Calls Tryz.prog 118 #[.slice A l.length c, .int .i64 (k : Int)] w fun e w' => ∃ A' c', e = .returned (.tuple #[.slice A' (l ++ numB k).length c', .int .i64 0]) ∧ w'.ownsRow w.heap.size TB 1 (.slice A' (l ++ numB k).length c') (l ++ numB k).length ((l ++ numB k).map byteV) ∧ (l ++ numB k).length ≤ c' ∧ c' ≤ maxLen ∧ Below w.heap.size w w' := by
  refine (refNum_B w A c l (hO.rd Non) hl k (by omega)).mono ?_
  rintro e w' ⟨v', rfl, ho, hb2⟩
  obtain ⟨A', c', rfl, hc, hm⟩ := own_val ho
  exact ⟨A', c', rfl, ho, hc, hm, hb2⟩

section
variable {T T1 T2 H : Nat → Prop} {w w' : World} {r lr : Nat} {A1 : Option Addr} {c1 : Nat} {ps : List Nat} {A2 : Option Addr} {c2 : Nat} {per : Nat} {s : So} {st0 : St} {rcs : List Rc} {m n : Nat}
set_option maxHeartbeats 2000000 in
theorem refPromise_B8 (h : RefO T T1 T2 H w r lr A1 c1 ps A2 c2 per s.log st0) (hi : s.inv m n st0 rcs) (q : Int) :
    Calls Tryz.prog 63 #[.pointer (some ⟨r, 0, none⟩), .int .i64 q] w (RefDid8 T w r per (s.promise q).1.log st0 (s.promise q).2) := by
  obtain ⟨b0, b1, b2, b3, b4, ld⟩ := h.facts
  cases hdn : s.log.down
  · rw [hdn] at ld
    have hnq := num_B8 w q
    by_cases hn : numOk q
    · have hn' := hn
      unfold numOk at hn'
      obtain ⟨k, rfl⟩ : ∃ k : Nat, q = k := ⟨q.toNat, by omega⟩
      rw [decide_eq_true hn] at hnq
      have hst := state_S8 h hi hdn
      by_cases h2 : (k : Int) < (s.st.promised : Int)
      · have HE := Lib.hid (show s.promise k = (s, 16) from by unfold So.promise; rw [hdn, if_neg (by simp), if_neg (by simpa using hn), if_pos h2])
        have gk : decide (k < s.st.promised) = true := decide_eq_true (by omega)
        clear hdn hn h2
        go_enter Tryz.func63, Tryz.ntmps63
        go_wp2_with (first
          | (go_at_call 117; refine hnq.mono ?_; rintro e w' ⟨rfl, rfl⟩)
          | (go_at_call 17; refine hst.mono ?_; rintro e w1 ⟨X, A, c, rfl, hH, hX, hb⟩))
        go_ret
        rw [HE.out]
        exact h.did hb 16
      by_cases h3 : (k : Int) = (s.st.promised : Int)
      · have HE := Lib.hid (show s.promise k = (s, 0) from by unfold So.promise; rw [hdn, if_neg (by simp), if_neg (by simpa using hn), if_neg h2, if_pos h3])
        obtain rfl : k = s.st.promised := by omega
        clear hdn hn h2 h3
        go_enter Tryz.func63, Tryz.ntmps63
        go_wp2_with (first
          | (go_at_call 117; refine hnq.mono ?_; rintro e w' ⟨rfl, rfl⟩)
          | (go_at_call 17; refine hst.mono ?_; rintro e w1 ⟨X, A, c, rfl, hH, hX, hb⟩))
        go_ret
        rw [HE.out]
        exact h.did hb 0
      · obtain ⟨rec, hre⟩ : ∃ l, (1 : UInt8) :: numB k = l := ⟨_, rfl⟩
        have hrl : rec.length ≤ 400 := by have := numB_10 (n := k) (by omega); rw [← hre, List.length_cons]; omega
        have HE := Lib.hid (show (s.promise k).1.log = (s.log.append rec).1 ∧ (s.promise k).2 = (s.log.append rec).2.2 from by
          unfold So.promise
          rw [hdn, if_neg (by simp), if_neg (by simpa using hn), if_neg h2, if_neg h3, Int.toNat_natCast, show (Rc.prom k).enc = rec from hre]
          unfold So.put
          split
          · rename_i hz; exact ⟨rfl, hz.symm⟩
          · exact ⟨rfl, rfl⟩)
        have gk : decide (k < s.st.promised) = false := decide_eq_false (by omega)
        have ge : ((k : Int) == (s.st.promised : Int)) = false := by rw [beq_eq_false_iff_ne]; exact h3
        have ge2 : decide (k = s.st.promised) = false := decide_eq_false (by omega)
        have ge3 : ¬ k = s.st.promised := by omega
        have hlt := h.lt
        have HRE := Lib.hid hre
        clear hdn hn h2 h3 hre
        go_enter Tryz.func63, Tryz.ntmps63
        go_wp2_with (first
          | (go_at_call 117; refine hnq.mono ?_; rintro e w' ⟨rfl, rfl⟩)
          | (go_at_call 17; refine hst.mono ?_; rintro e w1 ⟨X, A, c, rfl, hH, hX, hb⟩; have hnx := numX_B w1 1 (.int .u8 1) rfl k (by omega); rw [HRE.out] at hnx; clear hst)
          | (go_at_call 118; refine hnx.mono ?_; rintro e w2 ⟨A3, c3, rfl, hO3, hc3, hm3, hb3⟩; have h3 := (h.below hb).below hb3; obtain ⟨-, d1, -⟩ := h3.facts; have hap := h3.append hi A3 rec c3 hO3 hrl hc3 hm3; clear hnx)
          | (go_at_call 119; refine hap.mono ?_; rintro e w4 ⟨rfl, h4, f4⟩))
        go_ret
        have hb2 := hb.trans (hb3.mono hb.size)
        rw [HE.out.1, HE.out.2]
        exact RefDid8.from hb2 hlt ⟨rfl, h4, f4⟩
    · have HE := Lib.hid (show s.promise q = (s, 2) from by unfold So.promise; rw [hdn, if_neg (by simp), if_pos hn])
      rw [decide_eq_false hn] at hnq
      clear hdn hn
      go_enter Tryz.func63, Tryz.ntmps63
      go_wp2_with (go_at_call 117; refine hnq.mono ?_; rintro e w' ⟨rfl, rfl⟩)
      go_ret
      rw [HE.out]
      exact h.did (Below.refl _ _) 2
  · have HE := Lib.hid (show s.promise q = (s, 10) from by unfold So.promise; rw [hdn, if_pos rfl])
    rw [hdn] at ld
    clear hdn
    go_enter Tryz.func63, Tryz.ntmps63
    go_wp2
    go_ret
    rw [HE.out]
    exact h.did (Below.refl _ _) 10
set_option maxHeartbeats 2000000 in
theorem refForget_B8 (h : RefO T T1 T2 H w r lr A1 c1 ps A2 c2 per s.log st0) (hi : s.inv m n st0 rcs) (q : Int) :
    Calls Tryz.prog 69 #[.pointer (some ⟨r, 0, none⟩), .int .i64 q] w (RefDid8 T w r per (s.forget q).1.log st0 (s.forget q).2) := by
  obtain ⟨b0, b1, b2, b3, b4, ld⟩ := h.facts
  cases hdn : s.log.down
  · rw [hdn] at ld
    have hnq := num_B8 w q
    by_cases hn : numOk q
    · have hn' := hn
      unfold numOk at hn'
      obtain ⟨k, rfl⟩ : ∃ k : Nat, q = k := ⟨q.toNat, by omega⟩
      rw [decide_eq_true hn] at hnq
      have hst := base_S8 h hi hdn
      by_cases h2 : (k : Int) ≤ (s.st.base : Int)
      · have HE := Lib.hid (show s.forget k = (s, 0) from by unfold So.forget; rw [hdn, if_neg (by simp), if_neg (by simpa using hn), if_pos h2])
        have gk : decide (k ≤ s.st.base) = true := decide_eq_true (by omega)
        clear hdn hn h2
        go_enter Tryz.func69, Tryz.ntmps69
        go_wp2_with (first
          | (go_at_call 117; refine hnq.mono ?_; rintro e w' ⟨rfl, rfl⟩)
          | (go_at_call 18; refine hst.mono ?_; rintro e w1 ⟨rfl, hb⟩))
        go_ret
        rw [HE.out]
        exact h.did hb 0
      · obtain ⟨rec, hre⟩ : ∃ l, (3 : UInt8) :: numB k = l := ⟨_, rfl⟩
        have hrl : rec.length ≤ 400 := by have := numB_10 (n := k) (by omega); rw [← hre, List.length_cons]; omega
        have HE := Lib.hid (show (s.forget k).1.log = (s.log.append rec).1 ∧ (s.forget k).2 = (s.log.append rec).2.2 from by
          unfold So.forget
          rw [hdn, if_neg (by simp), if_neg (by simpa using hn), if_neg h2, Int.toNat_natCast, show (Rc.forget k).enc = rec from hre]
          unfold So.put
          split
          · rename_i hz; exact ⟨rfl, hz.symm⟩
          · exact ⟨rfl, rfl⟩)
        have gk : decide (k ≤ s.st.base) = false := decide_eq_false (by omega)
        have hlt := h.lt
        have HRE := Lib.hid hre
        clear hdn hn h2 hre
        go_enter Tryz.func69, Tryz.ntmps69
        go_wp2_with (first
          | (go_at_call 117; refine hnq.mono ?_; rintro e w' ⟨rfl, rfl⟩)
          | (go_at_call 18; refine hst.mono ?_; rintro e w1 ⟨rfl, hb⟩; have hnx := numX_B w1 3 (.int .u8 3) rfl k (by omega); rw [HRE.out] at hnx; clear hst)
          | (go_at_call 118; refine hnx.mono ?_; rintro e w2 ⟨A3, c3, rfl, hO3, hc3, hm3, hb3⟩; have h3 := (h.below hb).below hb3; obtain ⟨-, d1, -⟩ := h3.facts; have hap := h3.append hi A3 rec c3 hO3 hrl hc3 hm3; clear hnx)
          | (go_at_call 119; refine hap.mono ?_; rintro e w4 ⟨rfl, h4, f4⟩))
        go_ret
        have hb2 := hb.trans (hb3.mono hb.size)
        rw [HE.out.1, HE.out.2]
        exact RefDid8.from hb2 hlt ⟨rfl, h4, f4⟩
    · have HE := Lib.hid (show s.forget q = (s, 2) from by unfold So.forget; rw [hdn, if_neg (by simp), if_pos hn])
      rw [decide_eq_false hn] at hnq
      clear hdn hn
      go_enter Tryz.func69, Tryz.ntmps69
      go_wp2_with (go_at_call 117; refine hnq.mono ?_; rintro e w' ⟨rfl, rfl⟩)
      go_ret
      rw [HE.out]
      exact h.did (Below.refl _ _) 2
  · have HE := Lib.hid (show s.forget q = (s, 10) from by unfold So.forget; rw [hdn, if_pos rfl])
    rw [hdn] at ld
    clear hdn
    go_enter Tryz.func69, Tryz.ntmps69
    go_wp2
    go_ret
    rw [HE.out]
    exact h.did (Below.refl _ _) 10
end
end Go.Proofs.YtediidajdpdeiaaGreatDoor

/- The document's store (layer 8): Accept, the walk. -/
namespace Go.Proofs.YtediidajdpdeiaaGreatDoor
open Go.RowKit CrcM
set_option maxRecDepth 100000

/-- the default: anywhere -/
abbrev ever : Hole := ⟨fun _ => True⟩
section
variable {T T1 T2 H : Nat → Prop} {w w' : World} {r lr : Nat} {A1 : Option Addr} {c1 : Nat} {ps : List Nat} {A2 : Option Addr} {c2 : Nat} {per : Nat} {s : So} {st0 : St} {rcs : List Rc} {m n : Nat}
theorem HeldS.weak (i : Hole) {X : Nat → Prop} {A : Option Addr} {c : Nat} {H : Slots} (h : @HeldS i X w A c H) : @HeldS ever X w A c H := by
  obtain ⟨h1, h2, xs, h3, h4⟩ := h
  refine ⟨h1, h2, xs, @HeldRw.mk ever w xs H h3.len (fun j p hp => ?_), h4⟩
  obtain ⟨B, cb, q1, q2, q3, q4, q5, q6⟩ := h3.each j p hp
  exact ⟨B, cb, q1, q2, q3, q4, q5, Own.mono q6 (fun _ _ => True.intro)⟩
theorem RefO.weak (i : Hole) {L : Lg} (h : @RefO i T T1 T2 H w r lr A1 c1 ps A2 c2 per L st0) : @RefO ever T T1 T2 H w r lr A1 c1 ps A2 c2 per L st0 :=
  @RefO.mk ever T T1 T2 H w r lr A1 c1 ps A2 c2 per L st0 h.blk h.log (HeldS.weak i h.snap) h.t1 h.t2 h.hr h.d1 h.d2 h.d12 h.lt
theorem RefO.weakB (i : Hole) {L : Lg} (h : @RefO i T T1 T2 H w r lr A1 c1 ps A2 c2 per L st0) (hb : Below w.heap.size w w') : @RefO ever T T1 T2 H w' r lr A1 c1 ps A2 c2 per L st0 := RefO.weak i (h.below hb)
set_option maxHeartbeats 4000000 in
theorem refAccept_B8 [i : Hole] (h : RefO T T1 T2 H w r lr A1 c1 ps A2 c2 per s.log st0) (hi : s.inv m n st0 rcs) (slot q : Int) (B : Option Addr) (v : List UInt8) (cb : Nat) (hv : Own Ever w B v) (hvl : v.length ≤ 300) :
    Calls Tryz.prog 64 #[.pointer (some ⟨r, 0, none⟩), .int .i64 slot, .int .i64 q, .slice B v.length cb] w (RefDid8 T w r per (s.accept slot q v).1.log st0 (s.accept slot q v).2) := by
  obtain ⟨iu, hiu, hzu, hsu, hbu⟩ := info_parts info_u8
  obtain ⟨b0, b1, b2, b3, b4, ld⟩ := (RefO.weak i h).facts
  have hlt := h.lt
  cases hdn : s.log.down
  · rw [hdn] at ld
    have hns := num_B8 w slot
    have hnq := num_B8 w q
    by_cases hn1 : numOk slot
    · by_cases hn2 : numOk q
      · have hn1' := hn1
        have hn2' := hn2
        unfold numOk at hn1' hn2'
        obtain ⟨k, rfl⟩ : ∃ k : Nat, slot = k := ⟨slot.toNat, by omega⟩
        obtain ⟨j, rfl⟩ : ∃ k : Nat, q = k := ⟨q.toNat, by omega⟩
        rw [decide_eq_true hn1] at hns
        rw [decide_eq_true hn2] at hnq
        have hst := state_S8 (RefO.weak i h) hi hdn
        have hfew := (hi.st hdn).2
        have hsm := hi.small
        have he0 : s.accept k j v = if (j : Int) < s.st.promised ∨ (k : Int) < s.st.base then (s, 16) else if 32768 < v.length then (s, 3) else if getN k s.st.slots = none ∧ s.st.slots.length = 1024 then (s, 7)
            else s.put (Rc.acc k j v).enc ⟨j, s.st.base, putN k ⟨j, v⟩ s.st.slots⟩ := by
          unfold So.accept
          rw [hdn, if_neg (by simp), if_neg (by simpa using hn1), if_neg (by simpa using hn2), Int.toNat_natCast, Int.toNat_natCast]
        by_cases h2 : (j : Int) < (s.st.promised : Int)
        · have HE := Lib.hid (show s.accept k j v = (s, 16) from by rw [he0, if_pos (.inl h2)])
          have gk : decide (j < s.st.promised) = true := decide_eq_true (by omega)
          clear hdn hn1 hn2 h2 he0
          go_enter Tryz.func64, Tryz.ntmps64
          go_wp2_with (first
            | (go_at_call 117; refine hns.mono ?_; rintro e w' ⟨rfl, rfl⟩; clear hns)
            | (go_at_call 117; refine hnq.mono ?_; rintro e w' ⟨rfl, rfl⟩; clear hnq)
            | (go_at_call 17; refine hst.mono ?_; rintro e w1 ⟨X, A, c, rfl, hH, hX, hb⟩))
          go_ret
          rw [HE.out]
          exact h.did hb 16
        have gk : decide (j < s.st.promised) = false := decide_eq_false (by omega)
        have hba := fun (w1 : World) (hb : Below w.heap.size w w1) => base_S8 (RefO.weakB i h hb) hi hdn
        by_cases h3 : (k : Int) < (s.st.base : Int)
        · have HE := Lib.hid (show s.accept k j v = (s, 16) from by rw [he0, if_pos (.inr h3)])
          have gk2 : decide (k < s.st.base) = true := decide_eq_true (by omega)
          clear hdn hn1 hn2 h2 h3 he0
          go_enter Tryz.func64, Tryz.ntmps64
          go_wp2_with (first
            | (go_at_call 117; refine hns.mono ?_; rintro e w' ⟨rfl, rfl⟩; clear hns)
            | (go_at_call 117; refine hnq.mono ?_; rintro e w' ⟨rfl, rfl⟩; clear hnq)
            | (go_at_call 17; refine hst.mono ?_; rintro e w1 ⟨X, A, c, rfl, hH, hX, hb⟩; have hba1 := hba w1 hb; clear hba)
            | (go_at_call 18; refine hba1.mono ?_; rintro e w2 ⟨rfl, hb2⟩; clear hba1))
          go_ret
          rw [HE.out]
          exact h.did (hb.trans (hb2.mono hb.size)) 16
        · obtain ⟨rr1, hr1⟩ : ∃ l, (2 : UInt8) :: numB k = l := ⟨_, rfl⟩
          obtain ⟨rr2, hr2⟩ : ∃ l, rr1 ++ numB j = l := ⟨_, rfl⟩
          obtain ⟨rec, hre⟩ : ∃ l, rr2 ++ v = l := ⟨_, rfl⟩
          have henc : (Rc.acc k j v).enc = rec := by
            rw [← hre, ← hr2, ← hr1]
            show 2 :: (numB k ++ (numB j ++ v)) = _
            simp only [List.cons_append, List.append_assoc]
          have hl1 : rr1.length ≤ 11 := by have := numB_10 (n := k) (by omega); rw [← hr1, List.length_cons]; omega
          have hl2 : rr2.length ≤ 21 := by have := numB_10 (n := j) (by omega); rw [← hr2, List.length_append]; omega
          have hrl : rec.length = rr2.length + v.length := by rw [← hre, List.length_append]
          have HE := Lib.hid (show (s.accept k j v).1.log = (s.log.append rec).1 ∧ (s.accept k j v).2 = (s.log.append rec).2.2 from by
            rw [he0, if_neg (by omega), if_neg (by omega), if_neg (fun q => by have := q.2; omega), henc]
            unfold So.put
            split
            · rename_i hz; exact ⟨rfl, hz.symm⟩
            · exact ⟨rfl, rfl⟩)
          have gk2 : decide (k < s.st.base) = false := decide_eq_false (by omega)
          have gl : decide (32768 < v.length) = false := decide_eq_false (by omega)
          have gs : decide (1024 ≤ s.st.slots.length) = false := decide_eq_false (by omega)
          have HR1 := Lib.hid hr1
          have HR2 := Lib.hid hr2
          have HRE := Lib.hid hre
          have HRL := Lib.hid hrl
          clear hdn hn1 hn2 h2 h3 he0 hr1 hr2 hre henc hrl
          go_enter Tryz.func64, Tryz.ntmps64
          go_wp2_with (first
            | (go_at_call 117; refine hns.mono ?_; rintro e w' ⟨rfl, rfl⟩; clear hns)
            | (go_at_call 117; refine hnq.mono ?_; rintro e w' ⟨rfl, rfl⟩; clear hnq)
            | (go_at_call 17; refine hst.mono ?_; rintro e w1 ⟨X, A, c, rfl, hH, hX, hb⟩; have hba1 := hba w1 hb; clear hba)
            | (go_at_call 18; refine hba1.mono ?_; rintro e w2 ⟨rfl, hb2⟩; have hnx := numX_B w2 2 (.int .u8 2) rfl k (by omega); rw [HR1.out] at hnx; clear hba1)
            | (go_at_call 118; refine hnx.mono ?_; rintro e w3 ⟨A3, c3, rfl, hO3, hc3, hm3, hb3⟩; have hny := numY_B w3 A3 c3 rr1 hO3 (by omega) j (by omega); rw [HR2.out] at hny; clear hnx)
            | (go_at_call 118; refine hny.mono ?_; rintro e w5 ⟨A5, c5, rfl, ho5, hc5, hm5, hb5⟩; clear hny))
          have hbw3 := (hb.trans (hb2.mono hb.size)).trans (hb3.mono (Nat.le_trans hb.size hb2.size))
          have hbw5 := hbw3.trans (hb5.mono hbw3.size)
          have f1 := (hbw5.cell (p := ⟨r, 1, none⟩) (cell_lt b1)).trans b1
          have hv5 : Rd Non w5 B v := (hv.rd Non).fr (Fr.of_below hbw5)
          have hbs3 := hbw3.size
          refine wp_region_T #[[], [], [], [], [], [], [], [3], [3], [3], [3], [3], [3]] [3] (fun w' => w'.cell? ⟨r, 1, none⟩ = some (.pointer (some ⟨lr, 0, none⟩)) ∧ True) 13 rfl (by kernel_rfl) ?_
          (refine wpF (i := 0) rfl (by kernel_rfl) rfl (fun _ _ _ h => h) (fun _ => by go_simp; try rfl) ?_; (try simp only [Act.put, sA, sB, sC]))
          (refine wpF (i := 1) rfl (by kernel_rfl) rfl (fun _ _ _ h => h) (fun _ => by go_simp; try rfl) ?_; (try simp only [Act.put, sA, sB, sC]))
          (refine wpF (i := 2) rfl (by kernel_rfl) rfl (fun _ _ _ h => h) (fun _ => by go_simp; try rfl) ?_; (try simp only [Act.put, sA, sB, sC]))
          (refine wpAnyT_read (i := 3) rfl (by kernel_rfl) rfl (fun _ _ _ h => h) (by kernel_rfl) (⟨f1, trivial⟩) (fun w hS_ => by obtain ⟨s_1, s_2⟩ := hS_; go_simp; try rfl) ?_; (try simp only [Act.put, sA, sB, sC]))
          (refine wpF (i := 4) rfl (by kernel_rfl) rfl (fun _ _ _ h => h) (fun _ => by go_simp; try rfl) ?_; (try simp only [Act.put, sA, sB, sC]))
          (refine wpF (i := 5) rfl (by kernel_rfl) rfl (fun _ _ _ h => h) (fun _ => by go_simp; try rfl) ?_; (try simp only [Act.put, sA, sB, sC]))
          refine wpAnyT_one (i := 6) rfl (by kernel_rfl) rfl ?_
          intro K_ hK_
          refine oper_appB (.tmp 77) (.tmp 78) 30 rfl iu Tryz.underlying30 hiu hzu hsu hbu w3.heap.size (.slice A5 rr2.length c5) rr2.length rr2 rfl ho5.drew Non B v.length cb v rfl rfl hv5.drew (by omega) hb5.size ?_; intro v6 w6 ho6 hg6; obtain ⟨A6, c6, rfl, hc6, hm6⟩ := own_val ho6; have hb6 : Below w.heap.size w w6 := hbw5.drew.grown hg6 hbw5.size (fun j hj => by have := own_grown ho5 hj; omega)
          refine hK_ _ _ ?_ ?_
          · exact fun _ _ => ⟨(hb6.cell (p := ⟨r, 1, none⟩) (cell_lt b1)).trans b1, trivial⟩
          clear hK_ K_
          (try simp only [Act.put, sA, sB, sC])
          refine wpAnyT_sink (i := 7) rfl (by kernel_rfl) rfl (by kernel_rfl) ?_
          intro K_ hK_
          have hO6 : Own Ever w6 A6 rec := (Own.of_row (l := rec) (by rw [HRE.out] at ho6; exact ho6) HRL.out.symm).mono (fun _ _ => trivial); have hap := (h.below hb6).append hi A6 rec c6 hO6 (by rw [HRL.out]; omega) (by rw [HRL.out]; exact hc6) hm6; rw [HRL.out] at hap; go_wp2_with (go_at_call 119; refine hap.mono ?_; rintro e w7 ⟨rfl, h7, f7⟩)
          (try (refine hK_ _ _ ?_; clear hK_ K_))
          (try simp only [Act.put, sA, sB, sC])
          (refine wpF (i := 8) rfl (by kernel_rfl) rfl (fun _ _ _ h => h) (fun _ => by go_simp; try rfl) ?_; (try simp only [Act.put, sA, sB, sC]))
          (refine wpF (i := 9) rfl (by kernel_rfl) rfl (fun _ _ _ h => h) (fun _ => by go_simp; try rfl) ?_; (try simp only [Act.put, sA, sB, sC]))
          (refine wpF (i := 10) rfl (by kernel_rfl) rfl (fun _ _ _ h => h) (fun _ => by go_simp; try rfl) ?_; (try simp only [Act.put, sA, sB, sC]))
          (refine wpF (i := 11) rfl (by kernel_rfl) rfl (fun _ _ _ h => h) (fun _ => by go_simp; try rfl) ?_; (try simp only [Act.put, sA, sB, sC]))
          (refine wpF (i := 12) rfl (by kernel_rfl) rfl (fun _ _ _ h => h) (fun _ => by go_simp; try rfl) ?_; (try simp only [Act.put, sA, sB, sC]))
          refine wpAnyT_done (by kernel_rfl) ?_ _
          go_wp2
          go_ret
          rw [HE.out.1, HE.out.2]
          exact RefDid8.from hb6 hlt ⟨rfl, h7, f7⟩
      · have HE := Lib.hid (show s.accept slot q v = (s, 2) from by unfold So.accept; rw [hdn, if_neg (by simp), if_neg (by simpa using hn1), if_pos hn2])
        rw [decide_eq_true hn1] at hns
        rw [decide_eq_false hn2] at hnq
        clear hdn hn1 hn2
        go_enter Tryz.func64, Tryz.ntmps64
        go_wp2_with (first
          | (go_at_call 117; refine hns.mono ?_; rintro e w' ⟨rfl, rfl⟩; clear hns)
          | (go_at_call 117; refine hnq.mono ?_; rintro e w' ⟨rfl, rfl⟩; clear hnq))
        go_ret
        rw [HE.out]
        exact h.did (Below.refl _ _) 2
    · have HE := Lib.hid (show s.accept slot q v = (s, 2) from by unfold So.accept; rw [hdn, if_neg (by simp), if_pos hn1])
      rw [decide_eq_false hn1] at hns
      clear hdn hn1
      go_enter Tryz.func64, Tryz.ntmps64
      go_wp2_with (go_at_call 117; refine hns.mono ?_; rintro e w' ⟨rfl, rfl⟩)
      go_ret
      rw [HE.out]
      exact h.did (Below.refl _ _) 2
  · have HE := Lib.hid (show s.accept slot q v = (s, 10) from by unfold So.accept; rw [hdn, if_pos rfl])
    rw [hdn] at ld
    clear hdn
    go_enter Tryz.func64, Tryz.ntmps64
    go_wp2
    go_ret
    rw [HE.out]
    exact h.did (Below.refl _ _) 10
end
end Go.Proofs.YtediidajdpdeiaaGreatDoor

/- The document's log (layer 7): New; the walk. -/
namespace Go.Proofs.YtediidajdpdeiaaGreatDoor
open Go.RowKit CrcM
set_option maxRecDepth 100000

/-- WHAT New leaves -/
def RnewDid (w : World) (per : Int) (e : Ending) (w' : World) : Prop := ∃ r A c ps H, e = .returned (.tuple #[.pointer (some ⟨r, 0, none⟩), .int .i64 0]) ∧ RlogO (Nw w w') H w' r A c ps (Lg.new per.toNat).ref ∧ Below w.heap.size w w'
theorem refLogNew_B (w : World) (per : Int) : Calls Tryz.prog 48 #[.int .i64 per] w fun e w' =>
    if 1 ≤ per ∧ per ≤ 1024 then RnewDid w per e w' else e = .returned (.tuple #[.pointer none, .int .i64 2]) ∧ w' = w := by
  by_cases h : 1 ≤ per ∧ per ≤ 1024
  · simp only [if_pos h]
    obtain ⟨n, rfl⟩ : ∃ n : Nat, per = n := ⟨per.toNat, by omega⟩
    have h1 : ¬ (n : Int) < 1 := by omega
    have h2 : ¬ (1024 : Int) < (n : Int) := by omega
    go_enter Tryz.func48, Tryz.ntmps48
    go_wp2
    go_ret2
    refine ⟨w.heap.size, none, 0, [], Nw w (w.alloc (.cells #[.int .i64 (n : Int), .slice none 0 0, .bool false] TRl)), rfl, ⟨fun _ h => h, ⟨Nat.le_refl _, by simp⟩, Blk.new _ _ _, Row.nil _ _ _, Refs.nil _ _ _, fun x hx => hx.2, ?_, by simp [Lg.ref, Lg.new], fun g hg => by simp [Lg.ref, Lg.new] at hg⟩, (Below.refl _ _).alloc (Nat.le_refl _) _⟩
    show 1 ≤ ((n : Int)).toNat ∧ ((n : Int)).toNat ≤ 1024
    omega
  · simp only [if_neg h]
    by_cases h1 : per < 1
    · go_enter Tryz.func48, Tryz.ntmps48
      go_wp2
      go_ret2
      exact ⟨rfl, rfl⟩
    · have h2 : (1024 : Int) < per := by omega
      go_enter Tryz.func48, Tryz.ntmps48
      go_wp2
      go_ret2
      exact ⟨rfl, rfl⟩
end Go.Proofs.YtediidajdpdeiaaGreatDoor
