/- The document's log (layer 7): Restart; the walk. -/
import Derived.Test.YtediidajdpdeiaaGreatDoorJ15
import Derived.Test.YtediidajdpdeiaaGreatDoorJ16
import Derived.Test.YtediidajdpdeiaaGreatDoorJ9
import Derived.Test.YtediidajdpdeiaaGreatDoorJ10
import Derived.Test.YtediidajdpdeiaaGreatDoorJ13

namespace Go.Proofs.YtediidajdpdeiaaGreatDoor
open Go.RowKit CrcM
set_option maxRecDepth 100000

theorem take_set_mid {outs gs : List Sg} {k : Nat} (hol : outs.length = k) (x : Rk) : (((outs ++ gs.drop k).map (fun g : Sg => g.d.ref)).set k x).take k = outs.map (fun g : Sg => g.d.ref) := by
  rw [List.map_append, List.set_append_right _ _ (by rw [List.length_map]; omega), List.take_left' (by rw [List.length_map]; exact hol)]
theorem Dk.restart_all (D : Dk) : D.restart.1.all = D.all := by unfold Dk.restart; split <;> rfl
theorem Dk.cut_len (D : Dk) (n : Int) : (D.cut n).1.all.length ≤ D.all.length := by
  unfold Dk.cut
  split
  · exact Nat.le_refl _
  · split
    · exact Nat.le_refl _
    · simp only [List.length_take]; omega

section
variable {S H : Nat → Prop} {w : World} {b : Nat} {A : Option Addr} {c : Nat} {ps : List Nat}
set_option maxHeartbeats 2000000 in
theorem refLogRestart_B {L : Lg} {m : Nat} (h : RlogO S H w b A c ps L.ref) (hinv : L.inv m) :
    Calls Tryz.prog 73 #[.pointer (some ⟨b, 0, none⟩)] w (RlogDid S w (.pointer (some ⟨b, 0, none⟩)) (L.restart.1.ref, L.restart.2)) := by
  obtain ⟨ip, hip, hzp, hsp, hbp⟩ := info_parts info_pr
  have hsg := hinv.segs
  have hper : 1 ≤ L.per ∧ L.per ≤ 1024 := h.per
  obtain ⟨per, gs, dn⟩ := L
  simp only at hsg hper
  obtain ⟨c0, c1, c2, z1, z2, q1, q2, q3, q4⟩ := h.facts
  cases dn
  · have e : Lg.restart ⟨per, gs, false⟩ = (⟨per, gs, false⟩, 9) := by unfold Lg.restart; simp
    have E := Lib.hid e
    clear e q1
    go_enter Tryz.func73, Tryz.ntmps73
    go_wp2
    go_ret
    rw [E.out]
    exact ⟨rfl, h.same, Fr.refl _ _⟩
  · have e : Lg.restart ⟨per, gs, true⟩ = (⟨per, restartS per gs (-1), false⟩, 0) := by unfold Lg.restart; simp
    have E := Lib.hid e
    have HQ := Lib.hid (show ps.length = gs.length by rw [q1]; simp)
    have hS0 := h.hS
    have hbH := h.hb
    have hSl := h.lt
    have hHl : ∀ x, H x → x < w.heap.size := fun x hx => hSl x (hS0 x hx)
    obtain ⟨ho, f1⟩ := h.setDown false
    have hI0 : RestR S H w b A c ps per 0 (.slice none 0 0) (([] ++ gs.drop 0).map (fun g : Sg => g.d.ref)) H (w.setCell ⟨b, 2, none⟩ (.bool false)) :=
      ⟨f1, fun _ h => h, fun _ h => .inl h, fun x hx => ho.lt x (hS0 x hx), ho.blk, ho.row, Row.nil _ _ _, ho.disks.mono (fun _ _ hx => .inl hx) (fun _ _ _ h => h), ho.small⟩
    clear e q1
    go_enter Tryz.func73, Tryz.ntmps73
    go_wp2
    clear c0 c1 c2 z1 z2 ho f1
    generalize w.setCell ⟨b, 2, none⟩ (.bool false) = w0 at *
    go_loopw [3, 4, 5] (fun ov dv iv wr => ∃ (k : Nat) (A' : Option Addr) (c' : Nat) (outs : List Sg) (Hk : Nat → Prop) (d : Int), ov = .slice A' k c' ∧ dv = .int .i64 d ∧ iv = .int .i64 (k : Int) ∧ k ≤ ps.length ∧ RestR S H w b A c ps per k (.slice A' k c') ((outs ++ gs.drop k).map (fun g : Sg => g.d.ref)) Hk wr ∧ restartS per gs (-1) = outs ++ restartS per (gs.drop k) d ∧ outs.length = k) (fun _ _ iv _ => ps.length - (intOf iv).toNat)
    case atStart => exact ⟨0, none, 0, [], H, -1, rfl, rfl, rfl, Nat.zero_le _, hI0, rfl, rfl⟩
    case round =>
      obtain ⟨k, A', c', outs, Hk, d, rfl, rfl, rfl, hkl, hI, hrs, hol⟩ := hrel
      clear hI0
      have HRS := Lib.hid hrs
      have HOL := Lib.hid hol
      have x0 := hI.blk.cell 1 (v := .slice A ps.length c) rfl
      have x0f := hI.blk.frozen 1
      clear hrs hol
      by_cases hlt : k < ps.length
      · obtain ⟨g, hg⟩ : ∃ g, gs[k]? = some g := ⟨_, List.getElem?_eq_getElem (show k < gs.length by have := HQ.out; omega)⟩
        have hdr : gs.drop k = g :: gs.drop (k + 1) := drop_of hg
        have hgl : k < gs.length := (List.getElem?_eq_some_iff.1 hg).1
        obtain ⟨p, hp⟩ : ∃ p, ps[k]? = some p := ⟨_, List.getElem?_eq_getElem hlt⟩
        obtain ⟨ga, oa, rfl, -⟩ := hI.facts hp
        obtain ⟨u1, u2, u3, u4⟩ := hI.at_ hp
        have hpg : ((outs ++ gs.drop k).map (fun g : Sg => g.d.ref))[k]? = some g.d.ref := by rw [List.getElem?_map, at_mid HOL.out hg]; rfl
        obtain ⟨Sd, B1, e1, B2, e2, hd, hup⟩ := hI.disk hbH hp hpg
        have hsm0 := hI.small g.d.ref (List.mem_of_getElem? hpg)
        rw [ref_total] at hsm0
        have hok0 : g.d.ok := (hsg g (List.mem_of_getElem? hg)).dok hsm0
        have hRS : restartS per gs (-1) = outs ++ restartK per (scan g.d.restart.1 d) (restartS per (gs.drop (k + 1))) := by rw [HRS.out, hdr]; rfl
        have hD1 := (ref_restart (D := g.d)).1
        have hDup := Dk.restart_up g.d
        have hDok := Dk.ok_restart hok0
        have hsm1 : g.d.restart.1.all.length ≤ 4194304 := by rw [Dk.restart_all]; exact hsm0
        have hrB := refRestart_B hd
        unfold RefDid at hrB
        rw [← hD1] at hrB
        have hsp := scan_parse g.d.restart.1 d
        generalize hDD : g.d.restart.1 = D1 at *
        clear hDD hD1 hd hpg hsm0 hok0 hdr HRS
        have hset : (((outs ++ gs.drop k).map (fun g : Sg => g.d.ref)).set k D1.ref)[k]? = some D1.ref := List.getElem?_set_self (by rw [List.length_map, List.length_append, List.length_drop, HOL.out]; omega)
        have hrt : D1.ref.kept.length + D1.ref.rest.length ≤ 4194304 := by rw [ref_total]; exact hsm1
        have hRA : D1.ref.all = D1.all := ref_all D1
        obtain ⟨b8, hb8⟩ : ∃ l, D1.all = l := ⟨_, rfl⟩
        obtain ⟨n8, hn8⟩ : ∃ n, b8.length = n := ⟨_, rfl⟩
        rw [hb8] at hRA hsm1
        rw [hb8, hn8] at hsp
        rw [hn8] at hsm1
        have HRA := Lib.hid hRA
        have HN8 := Lib.hid hn8
        have HB8 := Lib.hid hb8
        obtain ⟨bs, rs, en, hpm⟩ : ∃ bs rs en, parseM b8 = (bs, rs, en) := ⟨_, _, _, rfl⟩
        rw [hpm] at hsp
        have HP := Lib.hid hpm
        have HD := Lib.hid hDup
        have HS := Lib.hid hset
        have HRS := Lib.hid hRS
        have hlt' : (k : Int) < (ps.length : Int) := by omega
        have k8 : IntKind.i64.wrap ((k : Int) + 1) = ((k + 1 : Nat) : Int) := by rw [IntKind.wrap_i64]; omega
        clear hRA hn8 hb8 hpm hset hRS hDup
        simp only at hsp
        rcases hsp with ⟨hbad, hsc⟩ | ⟨n, rfl, hdue, hle, hsc⟩
        · have hbad' : bs < 0 ∨ (¬ bs < 0 ∧ 0 ≤ d ∧ (bs != d) = true) := by
            by_cases hb0 : bs < 0
            · exact .inl hb0
            · obtain ⟨h1, h2⟩ := hbad.resolve_left hb0
              exact .inr ⟨hb0, h1, by simpa using h2⟩
          have HC := Lib.hid hsc
          clear hbad hsc
          rcases hbad' with j1 | ⟨j1, j2, j3⟩
          all_goals
            go_wp2_with (first
              | (go_at_call 133; refine hrB.mono ?_; rintro e w1 ⟨rfl, hd1, hf1⟩; have hI1 := hup w1 _ hf1 hd1 hrt; obtain ⟨x1, y1, -, -⟩ := hI1.at_ hp; obtain ⟨Sd1, B3, e3, B4, e4, hr1, -⟩ := hI1.disk hbH hp HS.out; have hal := refAll_B hr1 hrt; rw [HRA.out] at hal)
              | (go_at_call 80; refine hal.mono ?_; rintro e w2 ⟨A3, c3, rfl, ho3, hc3, hm3, hb2⟩; have hpa := parse_B w2 A3 b8 c3 ((Own.of_row' ho3).rd Non) hc3 (by rw [HN8.out]; omega); rw [HP.out] at hpa; unfold ParseDid at hpa; simp only at hpa; rw [HN8.out] at hpa hc3 ⊢)
              | (go_at_call 79; refine hpa.mono ?_; rintro e w3 ⟨R3, cr3, vals3, rfl, -, -, hb3⟩; have hI3 := hI1.below (hb2.trans (hb3.mono hb2.size)); obtain ⟨x3, y3, -, x3f⟩ := hI3.at_ hp))
            have hfin := hI3.finish hS0 hbH hSl hper q2 hkl
            rw [take_set_mid HOL.out] at hfin
            go_ret
            rw [E.out]
            refine ⟨rfl, ?_, hfin.2⟩
            have hout : restartS per gs (-1) = outs := by
              rw [HRS.out, HC.out]
              exact List.append_nil _
            show IsRlog _ _ _ ⟨per, (restartS per gs (-1)).map (fun g : Sg => g.d.ref), false⟩
            rw [hout]
            exact hfin.1
        · have hgk := (scan_ok hDok HD.out hsc).1
          have n1 := hgk.1
          have n2 := hgk.2.1
          simp only at n1 n2
          have j1 : ¬ (n : Int) < 0 := by omega
          have k9 : IntKind.i64.wrap ((n : Int) + (rs.length : Int)) = (n : Int) + (rs.length : Int) := by rw [IntKind.wrap_i64]; omega
          have HC := Lib.hid hsc
          have HGK := Lib.hid hgk
          clear hsc hgk
          have hdue' : ¬ 0 ≤ d ∨ (0 ≤ d ∧ ((n : Int) != d) = false) := by
            by_cases hd0 : 0 ≤ d
            · exact .inr ⟨hd0, by have : (n : Int) = d := by omega
                                  simpa using this⟩
            · exact .inl hd0
          obtain ⟨D2, hD2⟩ : ∃ D, (D1.cut en).1 = D := ⟨_, rfl⟩
          have hcu := (ref_cut (D := D1) (en : Int)).1
          have hct : D2.ref.kept.length + D2.ref.rest.length ≤ 4194304 := by
            rw [ref_total, ← hD2]
            exact Nat.le_trans (Dk.cut_len _ _) (by rw [HB8.out, HN8.out]; exact hsm1)
          rw [hD2] at hcu
          have hds : (((outs ++ gs.drop k).map (fun g : Sg => g.d.ref)).set k D1.ref).set k D2.ref = ((outs ++ [(⟨D2, n, rs, rs.length⟩ : Sg)]) ++ gs.drop (k + 1)).map (fun g : Sg => g.d.ref) := by
            rw [List.set_set, ← set_mid HOL.out hgl, List.map_set]
          have hRS2 : restartS per gs (-1) = (outs ++ [(⟨D2, n, rs, rs.length⟩ : Sg)]) ++ (if decide (en = n8) = false ∨ rs.length < per then [] else restartS per (gs.drop (k + 1)) ((n + rs.length : Nat) : Int)) := by
            rw [HRS.out, HC.out, hD2, List.append_assoc]
            rfl
          have htl : ((ps.take k).map ptr ++ [ptr p]).length = k + 1 := by rw [List.length_append, List.length_map, List.length_take, List.length_singleton]; omega
          have hm0 : ((ps.take k).map ptr).length = k := by rw [List.length_map, List.length_take]; omega
          have HM4 : ((ps.take k).map ptr).length + 1 ≤ maxLen := by rw [hm0]; unfold maxLen; omega
          have HM5 : (((ps.take k).map ptr).length + 1) * 8 ≤ 140737488355328 := by rw [hm0]; omega
          have HTL := Lib.hid htl
          have HCU := Lib.hid hcu
          have HDS := Lib.hid hds
          have HR2 := Lib.hid hRS2
          have hcase : (en : Int) < (n8 : Int) ∨ (¬ (en : Int) < (n8 : Int) ∧ (rs.length : Int) < (per : Int)) ∨ (¬ (en : Int) < (n8 : Int) ∧ ¬ (rs.length : Int) < (per : Int)) := by omega
          clear hdue hD2 hcu hds hRS2 htl hm0
          rcases hdue' with j2 | ⟨j2, j3⟩
          all_goals
            rcases hcase with t1 | ⟨t1, t2⟩ | ⟨t1, t2⟩
            · go_wp2_with (first
                | (go_at_call 133; refine hrB.mono ?_; rintro e w1 ⟨rfl, hd1, hf1⟩; have hI1 := hup w1 _ hf1 hd1 hrt; obtain ⟨x1, y1, -, -⟩ := hI1.at_ hp; obtain ⟨Sd1, B3, e3, B4, e4, hr1, -⟩ := hI1.disk hbH hp HS.out; have hal := refAll_B hr1 hrt; rw [HRA.out] at hal)
                | (go_at_call 80; refine hal.mono ?_; rintro e w2 ⟨A3, c3, rfl, ho3, hc3, hm3, hb2⟩; have hpa := parse_B w2 A3 b8 c3 ((Own.of_row' ho3).rd Non) hc3 (by rw [HN8.out]; omega); rw [HP.out] at hpa; unfold ParseDid at hpa; simp only at hpa; rw [HN8.out] at hpa hc3 ⊢)
                | (go_at_call 79; refine hpa.mono ?_; rintro e w3 ⟨R3, cr3, vals3, rfl, -, -, hb3⟩; have hI3 := hI1.below (hb2.trans (hb3.mono hb2.size)); obtain ⟨x3, y3, -, x3f⟩ := hI3.at_ hp; obtain ⟨Sd3, B5, e5, B6, e6, hr3, hup3⟩ := hI3.disk hbH hp HS.out; have hcut := refCut_B hr3 (en : Int); unfold RefDid at hcut; rw [← HCU.out] at hcut)
                | (go_at_call 134; refine hcut.mono ?_; rintro e w4 ⟨rfl, hd4, hf4⟩; have hI4 := hup3 w4 _ hf4 hd4 hct; rw [HDS.out] at hI4; obtain ⟨x4, y4, -, -⟩ := hI4.at_ hp; have hI4a := hI4.below (below_new w4 (.cells #[ptr p] TPr)))
                | (at_builtin; refine wpList_append_row rfl (.tmp 69) (.tmp 77) 38 rfl TPr ip _ 8 Tryz.underlying38 hip hzp hsp hbp rfl (.slice A' k c') ((ps.take k).map ptr) rfl hI4a.out ⟨w4.heap.size, 0, none⟩ (ptr p) rfl (heap_new_cell _ _ _) rfl HM4 HM5 (by decide) ?_; intro v5 w5 hrow5 hf5 hoth5; obtain ⟨A5, c5, rfl, hc5, hm5⟩ := hrow5.val; have hI5 := hI4a.more hSl hHl hbH hp hf5 hrow5; rw [HTL.out] at hI5 hc5 ⊢; obtain ⟨x5, -, z5, x5f⟩ := hI5.at_ hp))
              have hfin := hI5.finish hS0 hbH hSl hper q2 hlt
              have hte : (((outs ++ [(⟨D2, n, rs, rs.length⟩ : Sg)]) ++ gs.drop (k + 1)).map (fun g : Sg => g.d.ref)).take (k + 1) = (outs ++ [(⟨D2, n, rs, rs.length⟩ : Sg)]).map (fun g : Sg => g.d.ref) := by
                rw [List.map_append, List.take_left' (by rw [List.length_map, List.length_append, HOL.out]; rfl)]
              rw [hte] at hfin
              clear hte
              go_ret
              rw [E.out]
              refine ⟨rfl, ?_, hfin.2⟩
              have hout : restartS per gs (-1) = outs ++ [(⟨D2, n, rs, rs.length⟩ : Sg)] := by
                rw [HR2.out, if_pos (.inl (decide_eq_false (by omega)))]
                exact List.append_nil _
              show IsRlog _ _ _ ⟨per, (restartS per gs (-1)).map (fun g : Sg => g.d.ref), false⟩
              rw [hout]
              exact hfin.1
            · go_wp2_with (first
                | (go_at_call 133; refine hrB.mono ?_; rintro e w1 ⟨rfl, hd1, hf1⟩; have hI1 := hup w1 _ hf1 hd1 hrt; obtain ⟨x1, y1, -, -⟩ := hI1.at_ hp; obtain ⟨Sd1, B3, e3, B4, e4, hr1, -⟩ := hI1.disk hbH hp HS.out; have hal := refAll_B hr1 hrt; rw [HRA.out] at hal)
                | (go_at_call 80; refine hal.mono ?_; rintro e w2 ⟨A3, c3, rfl, ho3, hc3, hm3, hb2⟩; have hpa := parse_B w2 A3 b8 c3 ((Own.of_row' ho3).rd Non) hc3 (by rw [HN8.out]; omega); rw [HP.out] at hpa; unfold ParseDid at hpa; simp only at hpa; rw [HN8.out] at hpa hc3 ⊢)
                | (go_at_call 79; refine hpa.mono ?_; rintro e w3 ⟨R3, cr3, vals3, rfl, -, -, hb3⟩; have hI3 := hI1.below (hb2.trans (hb3.mono hb2.size)); obtain ⟨x3, y3, -, x3f⟩ := hI3.at_ hp; obtain ⟨Sd3, B5, e5, B6, e6, hr3, hup3⟩ := hI3.disk hbH hp HS.out; have hcut := refCut_B hr3 (en : Int); unfold RefDid at hcut; rw [← HCU.out] at hcut)
                | (go_at_call 134; refine hcut.mono ?_; rintro e w4 ⟨rfl, hd4, hf4⟩; have hI4 := hup3 w4 _ hf4 hd4 hct; rw [HDS.out] at hI4; obtain ⟨x4, y4, -, -⟩ := hI4.at_ hp; have hI4a := hI4.below (below_new w4 (.cells #[ptr p] TPr)))
                | (at_builtin; refine wpList_append_row rfl (.tmp 69) (.tmp 77) 38 rfl TPr ip _ 8 Tryz.underlying38 hip hzp hsp hbp rfl (.slice A' k c') ((ps.take k).map ptr) rfl hI4a.out ⟨w4.heap.size, 0, none⟩ (ptr p) rfl (heap_new_cell _ _ _) rfl HM4 HM5 (by decide) ?_; intro v5 w5 hrow5 hf5 hoth5; obtain ⟨A5, c5, rfl, hc5, hm5⟩ := hrow5.val; have hI5 := hI4a.more hSl hHl hbH hp hf5 hrow5; rw [HTL.out] at hI5 hc5 ⊢; obtain ⟨x5, -, z5, x5f⟩ := hI5.at_ hp))
              have hfin := hI5.finish hS0 hbH hSl hper q2 hlt
              have hte : (((outs ++ [(⟨D2, n, rs, rs.length⟩ : Sg)]) ++ gs.drop (k + 1)).map (fun g : Sg => g.d.ref)).take (k + 1) = (outs ++ [(⟨D2, n, rs, rs.length⟩ : Sg)]).map (fun g : Sg => g.d.ref) := by
                rw [List.map_append, List.take_left' (by rw [List.length_map, List.length_append, HOL.out]; rfl)]
              rw [hte] at hfin
              clear hte
              go_ret
              rw [E.out]
              refine ⟨rfl, ?_, hfin.2⟩
              have hout : restartS per gs (-1) = outs ++ [(⟨D2, n, rs, rs.length⟩ : Sg)] := by
                rw [HR2.out, if_pos (.inr (by omega))]
                exact List.append_nil _
              show IsRlog _ _ _ ⟨per, (restartS per gs (-1)).map (fun g : Sg => g.d.ref), false⟩
              rw [hout]
              exact hfin.1
            · go_wp2_with (first
                | (go_at_call 133; refine hrB.mono ?_; rintro e w1 ⟨rfl, hd1, hf1⟩; have hI1 := hup w1 _ hf1 hd1 hrt; obtain ⟨x1, y1, -, -⟩ := hI1.at_ hp; obtain ⟨Sd1, B3, e3, B4, e4, hr1, -⟩ := hI1.disk hbH hp HS.out; have hal := refAll_B hr1 hrt; rw [HRA.out] at hal)
                | (go_at_call 80; refine hal.mono ?_; rintro e w2 ⟨A3, c3, rfl, ho3, hc3, hm3, hb2⟩; have hpa := parse_B w2 A3 b8 c3 ((Own.of_row' ho3).rd Non) hc3 (by rw [HN8.out]; omega); rw [HP.out] at hpa; unfold ParseDid at hpa; simp only at hpa; rw [HN8.out] at hpa hc3 ⊢)
                | (go_at_call 79; refine hpa.mono ?_; rintro e w3 ⟨R3, cr3, vals3, rfl, -, -, hb3⟩; have hI3 := hI1.below (hb2.trans (hb3.mono hb2.size)); obtain ⟨x3, y3, -, x3f⟩ := hI3.at_ hp; obtain ⟨Sd3, B5, e5, B6, e6, hr3, hup3⟩ := hI3.disk hbH hp HS.out; have hcut := refCut_B hr3 (en : Int); unfold RefDid at hcut; rw [← HCU.out] at hcut)
                | (go_at_call 134; refine hcut.mono ?_; rintro e w4 ⟨rfl, hd4, hf4⟩; have hI4 := hup3 w4 _ hf4 hd4 hct; rw [HDS.out] at hI4; obtain ⟨x4, y4, -, -⟩ := hI4.at_ hp; have hI4a := hI4.below (below_new w4 (.cells #[ptr p] TPr)))
                | (at_builtin; refine wpList_append_row rfl (.tmp 69) (.tmp 77) 38 rfl TPr ip _ 8 Tryz.underlying38 hip hzp hsp hbp rfl (.slice A' k c') ((ps.take k).map ptr) rfl hI4a.out ⟨w4.heap.size, 0, none⟩ (ptr p) rfl (heap_new_cell _ _ _) rfl HM4 HM5 (by decide) ?_; intro v5 w5 hrow5 hf5 hoth5; obtain ⟨A5, c5, rfl, hc5, hm5⟩ := hrow5.val; have hI5 := hI4a.more hSl hHl hbH hp hf5 hrow5; rw [HTL.out] at hI5 hc5 ⊢; obtain ⟨x5, -, z5, x5f⟩ := hI5.at_ hp))
              go_roundw
              case rel =>
                refine ⟨k + 1, A5, c5, outs ++ [(⟨D2, n, rs, rs.length⟩ : Sg)], _, ((n + rs.length : Nat) : Int), rfl, by go_num, by go_num, hlt, hI5, ?_, by rw [List.length_append, HOL.out]; rfl⟩
                rw [HR2.out, if_neg (fun hh => ?_)]
                rcases hh with hh | hh
                · have := of_decide_eq_false hh
                  omega
                · omega
              case measure => simp [intOf]; omega
      · obtain rfl : k = ps.length := by omega
        have hfin := hI.finish hS0 hbH hSl hper q2 (Nat.le_refl _)
        have hfe : ((outs ++ gs.drop ps.length).map (fun g : Sg => g.d.ref)).take ps.length = outs.map (fun g : Sg => g.d.ref) := by
          rw [List.map_append, List.take_left' (by rw [List.length_map]; exact HOL.out)]
        rw [hfe] at hfin
        have hout : restartS per gs (-1) = outs := by
          rw [HRS.out, List.drop_of_length_le (by rw [HQ.out]; exact Nat.le_refl _)]
          exact List.append_nil _
        have HO := Lib.hid hout
        clear hfe hout
        go_wp2
        go_ret
        rw [E.out]
        refine ⟨rfl, ?_, hfin.2⟩
        show IsRlog _ _ _ ⟨per, (restartS per gs (-1)).map (fun g : Sg => g.d.ref), false⟩
        rw [HO.out]
        exact hfin.1
end
end Go.Proofs.YtediidajdpdeiaaGreatDoor

/- A log and the document's log side by side (layer 7), in memory. -/
namespace Go.Proofs.YtediidajdpdeiaaGreatDoor
open Go.RowKit CrcM
set_option maxRecDepth 100000

/-- a log b and the document's log r, each for itself, newer than the law's beginning -/
def BothG (W w : World) (b r : Nat) (L : Lg) (R : Rg) : Prop := ∃ T H A c ps, LiveG W w b L T ∧ RlogO T H w r A c ps R ∧ ∀ x, T x → W.heap.size ≤ x

section
variable {W w w' : World} {b r : Nat} {L : Lg} {R : Rg} {X : Nat → Prop}
theorem RlogO.keep {T H : Nat → Prop} {A : Option Addr} {c : Nat} {ps : List Nat} (h : RlogO T H w r A c ps R) (hk : ∀ x, T x → w'.heap[x]? = w.heap[x]?) (hs : ∀ x, T x → x < w'.heap.size) : RlogO T H w' r A c ps R := by
  refine ⟨h.hS, h.hb, h.blk.eq (hk _ (h.hS _ h.hb)), h.row.same (fun x hx => hk x (h.hS x hx)), ?_, hs, h.per, h.few, h.small⟩
  obtain ⟨F, h1, h2, h3, h4⟩ := h.disks
  refine ⟨F, fun i x hx => ⟨(h1 i x hx).1, (h1 i x hx).2.1, hs x (h1 i x hx).1⟩, fun i j x n p q => (h2 i j x n p q).eq (hk x (h1 i x p).1), h3, fun i p g hp hg => ?_⟩
  obtain ⟨A1, c1, A2, c2, hr⟩ := h4 i p g hp hg
  have hF : ∀ x, F i x → w'.heap[x]? = w.heap[x]? := fun x hx => hk x (h1 i x hx).1
  have hO : ∀ {A : Option Addr} {l : List UInt8}, Own (F i) w A l → Own (F i) w' A l := fun h j x hx => by
    obtain ⟨ad, e, hc, hb, hS⟩ := h j x hx
    exact ⟨ad, e, (cell_eq (by rw [add_block]; exact hF _ hS)).trans hc, hb.eq (hF _ hS), hS⟩
  exact ⟨A1, c1, A2, c2, hr.blk.eq (hF _ hr.inS), hO hr.own1, hO hr.own2, hr.inS, fun x hx => hs x (h1 i x hx).1, hr.cap1, hr.cap2, hr.ok⟩
theorem BothG.below (h : BothG W w b r L R) : Below W.heap.size W w := by
  obtain ⟨T, H, A, c, ps, h1, -⟩ := h
  exact h1.below
theorem BothG.mono (h : BothG W w b r L R) (f : Below w.heap.size w w') : BothG W w' b r L R := by
  obtain ⟨T, H, A, c, ps, h1, h2, h3⟩ := h
  exact ⟨T, H, A, c, ps, h1.mono' f, h2.below f, h3⟩
/-- the log turns -/
theorem BothG.seg (h : BothG W w b r L R) {f : Nat} {args : Array Value} {q : Lg × Int} (hc : ∀ T, LiveG W w b L T → Calls Tryz.prog f args w (LiveGDid W w b T q)) :
    Calls Tryz.prog f args w fun e w' => e = .returned (.int .i64 q.2) ∧ BothG W w' b r q.1 R := by
  obtain ⟨T, H, A, c, ps, h1, h2, h3⟩ := h
  refine (hc T h1).mono ?_
  rintro e w' ⟨h4, h5, h6, h7⟩
  exact ⟨h4, T, H, A, c, ps, h5, h2.keep h6 h5.ltX, h3⟩
/-- the document's log turns -/
theorem BothG.turn (h : BothG W w b r L R) {f : Nat} {args : Array Value} {q : Rg × Int} (hc : ∀ T H A c ps, RlogO T H w r A c ps R → Calls Tryz.prog f args w (RlogDid T w (.pointer (some ⟨r, 0, none⟩)) q)) :
    Calls Tryz.prog f args w fun e w' => e = .returned (.int .i64 q.2) ∧ BothG W w' b r L q.1 := by
  obtain ⟨T, H, A, c, ps, ⟨S, hl, hS, hb, hX⟩, h2, h3⟩ := h
  refine (hc T H A c ps h2).mono ?_
  rintro e w' ⟨h4, ⟨H', r', A', c', ps', e, h5⟩, h6⟩
  injection e with e
  injection e with e
  injection e with e
  subst e
  refine ⟨h4, _, H', A', c', ps', ⟨S, hl.fr h6 (fun x hx hy => ((hX x hy).1 hx).elim), hS, ⟨h6.os.trans hb.os, h6.tape.trans hb.tape, h6.output.trans hb.output, Nat.le_trans hb.size h6.size, fun k hk => (h6.out k (Nat.lt_of_lt_of_le hk hb.size) fun hh => by have := h3 k hh; omega).trans (hb.block k hk)⟩, fun x hx => ⟨fun hs => ?_, h5.lt x hx⟩⟩, h5, fun x hx => ?_⟩
  · rcases hx with hx | hx
    · exact (hX x hx).1 hs
    · obtain ⟨_, _, _, _, _, hlo⟩ := hl
      have := hlo.lt x hs
      have := hx.1
      omega
  · rcases hx with hx | hx
    · exact h3 x hx
    · exact Nat.le_trans hb.size hx.1
/-- a call that tells of the document's log -/
theorem BothG.asks (h : BothG W w b r L R) {f : Nat} {args : Array Value} {v : Value} (hc : ∀ T H A c ps, RlogO T H w r A c ps R → Calls Tryz.prog f args w (Told w v)) :
    Calls Tryz.prog f args w fun e w' => e = .returned v ∧ BothG W w' b r L R ∧ Below w.heap.size w w' := by
  have h' := h
  obtain ⟨T, H, A, c, ps, h1, h2, h3⟩ := h
  exact (hc T H A c ps h2).mono fun e w' ⟨h4, h5⟩ => ⟨h4, h'.mono h5, h5⟩
end

/-- as BothG, where no record lies in the row q, which is newer than the law's beginning and none of both logs' -/
def BothH (q : Nat) (W w : World) (b r : Nat) (L : Lg) (R : Rg) : Prop := ∃ S T H A c ps, @LogAt (holeAt q) S w b L ∧ RlogO T H w r A c ps R ∧ (∀ x, S x → W.heap.size ≤ x) ∧ (∀ x, T x → W.heap.size ≤ x) ∧ (∀ x, T x → ¬ S x) ∧ ¬ S q ∧ ¬ T q ∧ W.heap.size ≤ q ∧ q < w.heap.size ∧ Below W.heap.size W w
section
variable {q : Nat} {W w w' : World} {b r : Nat} {L : Lg} {R : Rg}
theorem BothH.below (h : BothH q W w b r L R) : Below W.heap.size W w := by
  obtain ⟨S, T, H, A, c, ps, h1, h2, h3, h4, h5, h6, h7, h8, h9, h10⟩ := h
  exact h10
theorem BothG.hold (h : BothG W w b r L R) (hb : Below w.heap.size w w') (hq : w.heap.size ≤ q) (hq' : q < w'.heap.size) : BothH q W w' b r L R := by
  obtain ⟨T, H, A, c, ps, ⟨S, ⟨hu, H1, A1, c1, ps1, hl⟩, hS, hbl, hX⟩, h2, h3⟩ := h
  exact ⟨S, T, H, A, c, ps, ⟨hu, H1, A1, c1, ps1, hl.hold hb hq hq'⟩, h2.below hb, hS, h3, fun x hx => (hX x hx).1, fun hh => by have := hl.lt q hh; omega, fun hh => by have := h2.lt q hh; omega, Nat.le_trans hbl.size hq, hq', hbl.trans (hb.mono hbl.size)⟩
theorem BothH.free (h : BothH q W w b r L R) (m : Mut q w w') : BothG W w' b r L R := by
  obtain ⟨S, T, H, A, c, ps, ⟨hu, H1, A1, c1, ps1, hl⟩, h2, h3, h4, h5, h6, h7, h8, h9, h10⟩ := h
  exact ⟨T, H, A, c, ps, ⟨S, ⟨hu, H1, A1, c1, ps1, m.log hl h6⟩, h3, ⟨m.os.trans h10.os, m.tape.trans h10.tape, m.output.trans h10.output, by rw [m.size]; exact h10.size, fun k hk => (m.out k (by omega)).trans (h10.block k hk)⟩, fun x hx => ⟨h5 x hx, by rw [m.size]; exact h2.lt x hx⟩⟩, m.rlog h2 h7, h4⟩
theorem BothH.mono (h : BothH q W w b r L R) (f : Below w.heap.size w w') : BothH q W w' b r L R := by
  obtain ⟨S, T, H, A, c, ps, ⟨hu, H1, A1, c1, ps1, hl⟩, h2, h3, h4, h5, h6, h7, h8, h9, h10⟩ := h
  exact ⟨S, T, H, A, c, ps, ⟨hu, H1, A1, c1, ps1, @LogO.below (holeAt q) S H1 w w' b A1 c1 ps1 L hl f⟩, h2.below f, h3, h4, h5, h6, h7, h8, Nat.lt_of_lt_of_le h9 f.size, h10.trans (f.mono h10.size)⟩
theorem BothH.append (h : BothH q W w b r L R) (hh : HalfAt W) (hlen : L.len ≤ 4611686018427387904) (B : Option Addr) (rec : List UInt8) (cb : Nat) (hr : Own Ever w B rec) (hrl : rec.length ≤ 70368744177664) :
    Calls Tryz.prog 55 #[.pointer (some ⟨b, 0, none⟩), .slice B rec.length cb] w fun e w' => e = .returned (.tuple #[.int .i64 ((L.append rec).2.1 : Int), .int .i64 (L.append rec).2.2]) ∧ BothH q W w' b r (L.append rec).1 R ∧ BK w w' := by
  obtain ⟨S, T, H, A, c, ps, ⟨hu, H1, A1, c1, ps1, hl⟩, h2, h3, h4, h5, h6, h7, h8, h9, h10⟩ := h
  refine (@appendL (holeAt q) S H1 w b A1 c1 ps1 L hl hu (hh.below h10 hh.lt) hlen B rec cb (hr.rd S) hrl).mono ?_
  rintro e w' ⟨k1, ⟨b', e', k2⟩, k3⟩
  injection e' with e'
  injection e' with e'
  injection e' with e'
  subst e'
  have hs := k3.size
  refine ⟨k1, ⟨_, T, H, A, c, ps, k2, h2.keep (fun x hx => k3.out x (h2.lt x hx) (h5 x hx)) (fun x hx => Nat.lt_of_lt_of_le (h2.lt x hx) hs), fun x hx => hx.elim (h3 x) (fun k => Nat.le_trans h10.size k.1), h4, fun x hx hx' => hx'.elim (h5 x hx) (fun k => by have := h2.lt x hx; have := k.1; omega), fun hx => hx.elim h6 (fun k => by have := k.1; omega), h7, h8, Nat.lt_of_lt_of_le h9 hs, ?_⟩, k3.byt⟩
  exact ⟨k3.os.trans h10.os, k3.tape.trans h10.tape, k3.output.trans h10.output, Nat.le_trans h10.size hs, fun k hk => (k3.out k (Nat.lt_of_lt_of_le hk h10.size) fun hh => by have := h3 k hh; omega).trans (h10.block k hk)⟩
end
end Go.Proofs.YtediidajdpdeiaaGreatDoor

/- The document's log (layer 7): New; the walk. -/
namespace Go.Proofs.YtediidajdpdeiaaGreatDoor
open Go.RowKit CrcM
set_option maxRecDepth 100000

/-- WHAT New leaves -/
def RnewDid (w : World) (per : Int) (e : Ending) (w' : World) : Prop := ∃ r A c ps H, e = .returned (.tuple #[.pointer (some ⟨r, 0, none⟩), .int .i64 0]) ∧ RlogO (Nw w w') H w' r A c ps (Lg.new per.toNat).ref ∧ Below w.heap.size w w'
theorem refLogNew_B (w : World) (per : Int) : Calls Tryz.prog 48 #[.int .i64 per] w fun e w' =>
    if 1 ≤ per ∧ per ≤ 1024 then RnewDid w per e w' else e = .returned (.tuple #[.pointer none, .int .i64 2]) ∧ w' = w := by
  by_cases h : 1 ≤ per ∧ per ≤ 1024
  · simp only [if_pos h]
    obtain ⟨n, rfl⟩ : ∃ n : Nat, per = n := ⟨per.toNat, by omega⟩
    have h1 : ¬ (n : Int) < 1 := by omega
    have h2 : ¬ (1024 : Int) < (n : Int) := by omega
    go_enter Tryz.func48, Tryz.ntmps48
    go_wp2
    go_ret2
    refine ⟨w.heap.size, none, 0, [], Nw w (w.alloc (.cells #[.int .i64 (n : Int), .slice none 0 0, .bool false] TRl)), rfl, ⟨fun _ h => h, ⟨Nat.le_refl _, by simp⟩, Blk.new _ _ _, Row.nil _ _ _, Refs.nil _ _ _, fun x hx => hx.2, ?_, by simp [Lg.ref, Lg.new], fun g hg => by simp [Lg.ref, Lg.new] at hg⟩, (Below.refl _ _).alloc (Nat.le_refl _) _⟩
    show 1 ≤ ((n : Int)).toNat ∧ ((n : Int)).toNat ≤ 1024
    omega
  · simp only [if_neg h]
    by_cases h1 : per < 1
    · go_enter Tryz.func48, Tryz.ntmps48
      go_wp2
      go_ret2
      exact ⟨rfl, rfl⟩
    · have h2 : (1024 : Int) < per := by omega
      go_enter Tryz.func48, Tryz.ntmps48
      go_wp2
      go_ret2
      exact ⟨rfl, rfl⟩
end Go.Proofs.YtediidajdpdeiaaGreatDoor

/- A log, its copy and the document's log side by side (layer 7), in memory. -/
namespace Go.Proofs.YtediidajdpdeiaaGreatDoor
open Go.RowKit CrcM
set_option maxRecDepth 100000

section
variable {w w' : World}
theorem Own.at {S : Nat → Prop} {A : Option Addr} {l : List UInt8} (h : Own S w A l) (hk : ∀ x, S x → w'.heap[x]? = w.heap[x]?) : Own S w' A l := fun j x hx => by
  obtain ⟨ad, e, hc, hb, hS⟩ := h j x hx
  exact ⟨ad, e, (cell_eq (by rw [add_block]; exact hk _ hS)).trans hc, hb.eq (hk _ hS), hS⟩
end

section
variable {W w0 w w' : World} {b r : Nat} {L : Lg} {R : Rg}
/-- as BothG, beside a copy k of a log L0 -/
def BothC (W w : World) (b k r : Nat) (L L0 : Lg) (R : Rg) : Prop := ∃ T H A c ps K, LiveG W w b L (fun x => T x ∨ K x) ∧ RlogO T H w r A c ps R ∧ LogAt K w k L0 ∧ (∀ x, T x → W.heap.size ≤ x) ∧ (∀ x, K x → W.heap.size ≤ x) ∧ ∀ x, T x → ¬ K x
theorem BothG.copy (h : BothG W w b r L R) : Calls Tryz.prog 50 #[.pointer (some ⟨b, 0, none⟩)] w fun e w' => ∃ k, e = .returned (.pointer (some ⟨k, 0, none⟩)) ∧ BothC W w' b k r L L R ∧ Below w.heap.size w w' := by
  obtain ⟨T, H, A, c, ps, h1, h2, h3⟩ := h
  obtain ⟨S, ⟨hu, H1, A1, c1, ps1, hl⟩, hS, hbl, hX⟩ := id h1
  refine (copyL hl hu).mono ?_
  rintro e w' ⟨k, rfl, h4, h5⟩
  exact ⟨k, rfl, ⟨T, H, A, c, ps, Nw w w', h1.mono h5, h2.below h5, h4, h3, fun x hx => Nat.le_trans hbl.size hx.1, fun x hx hk => by have := h2.lt x hx; have := hk.1; omega⟩, h5⟩
theorem BothC.below {k : Nat} {L0 : Lg} (h : BothC W w b k r L L0 R) : Below W.heap.size W w := by
  obtain ⟨T, H, A, c, ps, K, h1, -⟩ := h
  exact h1.below
theorem BothC.mono {k : Nat} {L0 : Lg} (h : BothC W w b k r L L0 R) (f : Below w.heap.size w w') : BothC W w' b k r L L0 R := by
  obtain ⟨T, H, A, c, ps, K, h1, h2, h3, h4, h5, h6⟩ := h
  exact ⟨T, H, A, c, ps, K, h1.mono' f, h2.below f, h3.below f, h4, h5, h6⟩
theorem BothC.seg {k : Nat} {L0 L' : Lg} (h : BothC W w b k r L L0 R) {f : Nat} {args : Array Value} {Q : Ending → Prop} (hc : ∀ T, LiveG W w b L T → Calls Tryz.prog f args w fun e w' => Q e ∧ LiveG W w' b L' T ∧ XK T w w' ∧ BK w w') :
    Calls Tryz.prog f args w fun e w' => Q e ∧ BothC W w' b k r L' L0 R := by
  obtain ⟨T, H, A, c, ps, K, h1, h2, h3, h4, h5, h6⟩ := h
  refine (hc _ h1).mono ?_
  rintro e w' ⟨g1, g2, g3, g4⟩
  have hsz : ∀ x, K x → x < w'.heap.size := fun x hx => g2.ltX x (.inr hx)
  refine ⟨g1, T, H, A, c, ps, K, g2, h2.keep (fun x hx => g3 x (.inl hx)) (fun x hx => g2.ltX x (.inl hx)), ?_, h4, h5, h6⟩
  obtain ⟨hu, H1, A1, c1, ps1, h⟩ := h3
  refine ⟨hu, H1, A1, c1, ps1, h.hS, h.hb, h.blk.eq (g3 _ (.inr (h.hS _ h.hb))), h.row.same (fun x hx => g3 x (.inr (h.hS x hx))), ?_, hsz, h.ok, fun _ _ => trivial⟩
  obtain ⟨F, k1, k2, k3, k4⟩ := h.segs
  refine ⟨F, fun i x hx => ⟨(k1 i x hx).1, (k1 i x hx).2.1, hsz x (k1 i x hx).1⟩, fun i j x n p q => (k2 i j x n p q).eq (g3 x (.inr (k1 i x p).1)), k3, fun i p g hp hg => ?_⟩
  have hk : ∀ x, F i x → w'.heap[x]? = w.heap[x]? := fun x hx => g3 x (.inr (k1 i x hx).1)
  obtain ⟨⟨Sd, Sh, db, A, c, rv, vals, m1, m2, m3, m4, m5, m6, m7, m8⟩, hlt⟩ := k4 i p g hp hg
  exact ⟨⟨Sd, Sh, db, A, c, rv, vals, m1, m2, fun x p q => (m3 x p q).eq (hk x (m1 x p)), m4, m5.eq (hk _ (m2 _ m4)), ⟨m6.blk.eq (hk _ (m1 _ m6.inS)), m6.own.at (fun x hx => hk x (m1 x hx)), m6.inS, fun x hx => hsz x (k1 i x (m1 x hx)).1, m6.cap, m6.ok⟩, m7.same (fun x hx => hk x (m2 x hx)), m8.bk g4⟩, fun x hx => hsz x (k1 i x hx).1⟩
/-- on with the copy -/
theorem BothC.swap {k : Nat} {L0 : Lg} (h : BothC W w b k r L L0 R) : BothG W w k r L0 R := by
  obtain ⟨T, H, A, c, ps, K, h1, h2, h3, h4, h5, h6⟩ := h
  exact ⟨T, H, A, c, ps, ⟨K, h3, h5, h1.below, fun x hx => ⟨h6 x hx, h1.ltX x (.inl hx)⟩⟩, h2, h4⟩
end
end Go.Proofs.YtediidajdpdeiaaGreatDoor

/- SeglogPlays: a call on both logs (layer 7); the walk. -/
namespace Go.Proofs.YtediidajdpdeiaaGreatDoor
open Go.RowKit CrcM
set_option maxRecDepth 100000

theorem xor255_all : ∀ (x : Fin 256), bits .xor .u8 (x.val : Int) 255 = ((UInt8.ofNat x.val ^^^ 255).toNat : Int) := by decide +kernel
theorem xor255 (x : UInt8) : Value.int .u8 (bits .xor .u8 (x.toNat : Int) 255) = byteV (x ^^^ 255) := by
  have := xor255_all ⟨x.toNat, x.toNat_lt⟩
  simp only [UInt8.ofNat_toNat] at this
  rw [this]; rfl
theorem own_bk {w w' : World} {base n : Nat} {v : Value} {xs : List Value} {sz : Nat} (h : w.ownsRow base TB sz v n xs) (k : BK w w') : w'.ownsRow base TB sz v n xs := by
  refine ⟨h.1, ?_⟩
  rcases h.2 with h2 | ⟨g, cap, cur, hv, hg0, hg, hr⟩
  · exact .inl h2
  · exact .inr ⟨g, cap, cur, hv, hg0, (k g ⟨cur, _, hg⟩).trans hg, hr⟩

/-- the block of a row of one's own, or any new one where there is none -/
theorem row_at {w w3 : World} {m c3 : Nat} {A3 : Option Addr} {xs : List Value} (ho : w3.ownsRow (w.heap.size + 1) TB 1 (.slice A3 m c3) m xs) (hl : w.heap.size + 1 ≤ w3.heap.size) : ∃ q, w.heap.size ≤ q ∧ q < w3.heap.size ∧ (m = 0 ∨ A3 = some ⟨q, 0, none⟩) := by
  rcases ho.2 with ⟨_, h0⟩ | ⟨g, cap, cur, hv, hg0, hg, hr⟩
  · exact ⟨w.heap.size, Nat.le_refl _, by omega, .inl h0⟩
  · injection hv with hv
    exact ⟨g, by omega, (Array.getElem?_eq_some_iff.1 hg).1, .inr hv⟩

end Go.Proofs.YtediidajdpdeiaaGreatDoor

/- What calls do to a store that has the law, the snapshot's state told (layer 8), in plain words. -/
namespace Go.Proofs.YtediidajdpdeiaaGreatDoor
open CrcM
section
variable {m n : Nat} {s : So} {st0 : St} {rcs : List Rc}
theorem So.Fine.calls8 (h : s.Fine m n st0 rcs) (hn : n < 150) :
    (∀ b, ∃ rs, (s.promise b).1.Fine m (n + 1) st0 rs) ∧ (∀ (slot b : Int) (v : List UInt8), v.length ≤ 300 → (numOk slot → slot < m) → ∃ rs, (s.accept slot b v).1.Fine m (n + 1) st0 rs) ∧ (∃ rs, s.sync.1.Fine m (n + 1) st0 rs) ∧ (∀ keep flip, ∃ rs, (s.crash keep flip).1.Fine m (n + 1) st0 rs) ∧ ∀ k, ∃ rs, (s.forget k).1.Fine m (n + 1) st0 rs := by
  have hs : ∃ rs, s.Fine m (n + 1) st0 rs := ⟨rcs, h.mono (Nat.le_refl _) (by omega) (by omega)⟩
  cases hd : s.log.down with
  | true =>
    refine ⟨fun b => ?_, fun slot b v _ _ => ?_, ?_, fun keep flip => ?_, fun k => ?_⟩
    · unfold So.promise; rw [hd, if_pos rfl]; exact hs
    · unfold So.accept; rw [hd, if_pos rfl]; exact hs
    · have e : s.log.sync = (s.log, 10) := by unfold Lg.sync; rw [hd]; rfl
      unfold So.sync; rw [e]; exact hs
    · have e : s.log.crash keep flip = (s.log, 10) := by unfold Lg.crash; rw [hd]; rfl
      unfold So.crash; rw [e]; exact hs
    · unfold So.forget; rw [hd, if_pos rfl]; exact hs
  | false =>
    have hnow := h.now hd
    refine ⟨fun b => ?_, fun slot b v hv hm => ?_, ?_, fun keep flip => ?_, fun k => ?_⟩
    · rcases h.inv.promise hd hn b with ⟨e, _⟩ | ⟨k, _, _, _, s', e, hp⟩
      · rw [e]; exact hs
      · rw [e]; exact ⟨_, h.put hd hp hnow⟩
    · by_cases hok : numOk slot
      · rcases h.inv.accept hd hn slot b v hv (hm hok) with ⟨e, _⟩ | ⟨k, j, _, _, _, _, hb, s', e, hp⟩
        · rw [e]; exact hs
        · rw [e]; exact ⟨_, h.put hd hp (hnow.acc hb _ _)⟩
      · unfold So.accept; rw [hd, if_neg (by simp), if_pos hok]; exact hs
    · obtain ⟨s', e, hi, hd', _⟩ := h.inv.sync hd
      rw [e]; exact ⟨_, (hi.fine h.based hd').mono (Nat.le_refl _) (by omega) (by omega)⟩
    · by_cases hk : 0 ≤ keep
      · obtain ⟨s', e, hi, _⟩ := h.inv.crash hd keep flip hk
        have e2 : (s.crash keep flip).1.st = s.st := by unfold So.crash; split <;> rfl
        rw [e] at e2 ⊢
        exact ⟨rcs, hi.mono (Nat.le_refl _) (by omega) (by omega), h.based, by rw [e2]; have := h.few; omega⟩
      · have e : s.log.crash keep flip = (s.log, 2) := by unfold Lg.crash; rw [hd, if_neg (by simp), if_pos (by omega)]
        unfold So.crash; rw [e]; exact hs
    · by_cases hk : numOk k
      · rcases h.inv.forget hd hn k hk with ⟨e, _⟩ | ⟨j, _, _, s', e, hp⟩
        · rw [e]; exact hs
        · rw [e]; exact ⟨_, h.put hd hp (St.based_forget _ _)⟩
      · unfold So.forget; rw [hd, if_neg (by simp), if_pos hk]; exact hs
theorem put_per (s : So) (rec : List UInt8) (st : St) : (s.put rec st).1.per = s.per := by unfold So.put; split <;> rfl
theorem promise_per (s : So) (b : Int) : (s.promise b).1.per = s.per := by unfold So.promise; (repeat' split) <;> first | rfl | exact put_per _ _ _
theorem accept_per (s : So) (k b : Int) (v : List UInt8) : (s.accept k b v).1.per = s.per := by unfold So.accept; (repeat' split) <;> first | rfl | exact put_per _ _ _
theorem forget_per (s : So) (b : Int) : (s.forget b).1.per = s.per := by unfold So.forget; (repeat' split) <;> first | rfl | exact put_per _ _ _
theorem crash_per (s : So) (a b : Int) : (s.crash a b).1.per = s.per := by unfold So.crash; split <;> rfl
/-- a snapshot, of a store that is up -/
theorem So.Fine.snap8 (h : s.Fine m n st0 rcs) (hd : s.log.down = false) : ∃ s', s.snapshot = (s', 0) ∧ s'.Fine m n s.st [] ∧ s'.log = Lg.new s.per ∧ s'.st = s.st := by
  obtain ⟨s', e, hi, hl, hst⟩ := h.inv.snapshot hd
  exact ⟨s', e, hi.fine (Based.nil (h.now hd)) (by rw [hl]; rfl), hl, hst⟩
end
end Go.Proofs.YtediidajdpdeiaaGreatDoor



