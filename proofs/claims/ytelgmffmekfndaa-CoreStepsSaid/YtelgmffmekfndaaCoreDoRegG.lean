/- Two statements of the document's Do that draw their order, at a frame that is a letter. Conditions: as each theorem names them. -/
import Derived.Test.YtelgmffmekfndaaCoreSregG
set_option linter.unusedVariables false
namespace Go.Proofs.Ytelgmffmekfndaa
open Go.ChangeShapes Go.WideShapes Go.ChangeAt Go.RowKit

section
variable {ρ : Operand → Value}
theorem rn_fd {o : Oper} {x : Operand} {b : Nat} (ho : o.op = .fieldAddr 50 x 1) (h : ρ x = .pointer (some ⟨b, 0, none⟩)) (w : World) : (execOp ρ o).run Try.prog w = .ok (.value (.pointer (some ⟨b, 1, none⟩))) w := rn_f50 ho h w
theorem rn_fd2 {o : Oper} {x : Operand} {b : Nat} (ho : o.op = .fieldAddr 50 x 2) (h : ρ x = .pointer (some ⟨b, 0, none⟩)) (w : World) : (execOp ρ o).run Try.prog w = .ok (.value (.pointer (some ⟨b, 2, none⟩))) w := by
  unfold execOp; simp [ho, h, go_sem]
theorem rn_fd4 {o : Oper} {x : Operand} {b : Nat} (ho : o.op = .fieldAddr 50 x 4) (h : ρ x = .pointer (some ⟨b, 0, none⟩)) (w : World) : (execOp ρ o).run Try.prog w = .ok (.value (.pointer (some ⟨b, 4, none⟩))) w := by
  unfold execOp; simp [ho, h, go_sem]
theorem rn_f58 {o : Oper} {x : Operand} {b : Nat} (ho : o.op = .fieldAddr 58 x 0) (h : ρ x = .pointer (some ⟨b, 0, none⟩)) (w : World) : (execOp ρ o).run Try.prog w = .ok (.value (.pointer (some ⟨b, 0, none⟩))) w := by
  unfold execOp; simp [ho, h, go_sem]
theorem rn_load21 {o : Oper} {x : Operand} {p : Addr} {v : Int} (ho : o.op = .load 21 x) (h : ρ x = .pointer (some p)) (w : World) (hc : w.cell? p = some (.int .i32 v)) : (execOp ρ o).run Try.prog w = .ok (.value (.int .i32 v)) w := by
  unfold execOp; simp [ho, h, hc, go_sem]
theorem rn_cv1 {o : Oper} {x : Operand} {v r : Int} (ho : o.op = .convert 21 2 x) (h : ρ x = .int .i32 v) (hr : IntKind.i64.wrap v = r) (w : World) : (execOp ρ o).run Try.prog w = .ok (.value (.int .i64 r)) w := by
  subst hr; unfold execOp; simp [ho, h, go_sem]
theorem rn_cv2 {o : Oper} {x : Operand} {v r : Int} (ho : o.op = .convert 2 22 x) (h : ρ x = .int .i64 v) (hr : IntKind.u64.wrap v = r) (w : World) : (execOp ρ o).run Try.prog w = .ok (.value (.int .u64 r)) w := by
  subst hr; unfold execOp; simp [ho, h, go_sem]
theorem rn_cv3 {o : Oper} {x : Operand} {v r : Int} (ho : o.op = .convert 21 78 x) (h : ρ x = .int .i32 v) (hr : IntKind.u32.wrap v = r) (w : World) : (execOp ρ o).run Try.prog w = .ok (.value (.int .u32 r)) w := by
  subst hr; unfold execOp; simp [ho, h, go_sem]
theorem rn_cv4 {o : Oper} {x : Operand} {v r : Int} (ho : o.op = .convert 78 22 x) (h : ρ x = .int .u32 v) (hr : IntKind.u64.wrap v = r) (w : World) : (execOp ρ o).run Try.prog w = .ok (.value (.int .u64 r)) w := by
  subst hr; unfold execOp; simp [ho, h, go_sem]
theorem rn_add22 {o : Oper} {x y : Operand} {a b v : Int} {s : TypeId} (ho : o.op = .binOp .add 22 x y s) (h : ρ x = .int .u64 a) (h2 : ρ y = .int .u64 b) (hx : IntKind.u64.wrap (a + b) = v) (w : World) : (execOp ρ o).run Try.prog w = .ok (.value (.int .u64 v)) w := by
  subst hx
  unfold execOp; simp [ho, h, h2, go_sem]
theorem rn_rem22 {o : Oper} {x : Operand} {a v : Int} {s : TypeId} (ho : o.op = .binOp .rem 22 x (.const (.int .u64 4294967296)) s) (hc : ρ (.const (.int .u64 4294967296)) = .int .u64 4294967296) (h : ρ x = .int .u64 a) (hx : a.tmod 4294967296 = v) (w : World) : (execOp ρ o).run Try.prog w = .ok (.value (.int .u64 v)) w := by
  subst hx
  unfold execOp; simp [ho, h, hc, go_sem]
theorem rn_shl32 {o : Oper} {x : Operand} {a v : Int} {s : TypeId} (ho : o.op = .binOp .shl 22 x (.const (.int .u64 32)) s) (hc : ρ (.const (.int .u64 32)) = .int .u64 32) (h : ρ x = .int .u64 a) (hx : IntKind.u64.wrap (a * 4294967296) = v) (w : World) : (execOp ρ o).run Try.prog w = .ok (.value (.int .u64 v)) w := by
  subst hx
  unfold execOp; simp [ho, h, hc, go_sem]
theorem rn_store22 {o : Oper} {x y : Operand} {p : Addr} {v : Int} {old : Value} (ho : o.op = .store 22 x y) (h : ρ x = .pointer (some p)) (h2 : ρ y = .int .u64 v) (w : World) (hc : w.cell? p = some old) (hf : w.frozen? p = false) : (execOp ρ o).run Try.prog w = .ok .skip (w.setCell p (.int .u64 v)) := by
  unfold execOp; simp [ho, h, h2, hc, hf, go_sem]
end
noncomputable def code17 : Code := (Try.f89.body.bind (regionOf 17)).getD .skip
noncomputable def code15 : Code := (Try.f89.body.bind (regionOf 15)).getD .skip

set_option maxRecDepth 100000 in
set_option maxHeartbeats 4000000 in
theorem addi_reg (c A B X : Nat) (a b imm K v : Int) (wA : World) (hA : A < 16) (hB : B < 16) (hI : IntKind.i64.wrap imm = imm) (hK : IntKind.u64.wrap imm = K) (hv : IntKind.u64.wrap (b + K) = v)
    (cX10 : wA.cell? ⟨X, 1, none⟩ = some (.int .i64 A)) (cX20 : wA.cell? ⟨X, 2, none⟩ = some (.int .i64 B)) (cX40 : wA.cell? ⟨X, 4, none⟩ = some (.int .i32 imm)) (cB0 : wA.cell? ⟨c, B, none⟩ = some (.int .u64 b)) (cA0 : wA.cell? ⟨c, A, none⟩ = some (.int .u64 a)) (fA0 : wA.frozen? ⟨c, A, none⟩ = false)
    (a0 : Act) (hs0 : a0.tmps.size = 206) (f0 : a0.eval (.tmp 0) = .pointer (some ⟨c, 0, none⟩)) (f4 : a0.eval (.tmp 4) = .pointer (some ⟨X, 0, none⟩)) (Q : Exit → Act → World → Prop)
    (hQ : Q .normal ((((((((((((((((((a0.put (some 109) (.pointer (some ⟨c, 0, none⟩))).put (some 110) (.pointer (some ⟨X, 1, none⟩))).put (some 111) (.int .i64 (A : Nat))).put (some 112) (.pointer (some ⟨c, 0, none⟩))).put (some 113) (.pointer (some ⟨X, 2, none⟩))).put (some 114) (.int .i64 (B : Nat))).put (some 115) (.pointer (some ⟨c, 0, none⟩))).put (some 116) (.pointer (some ⟨c, 0, none⟩))).put (some 117) (.pointer (some ⟨c, B, none⟩))).put (some 118) (.int .u64 b)).put (some 119) (.pointer (some ⟨X, 4, none⟩))).put (some 120) (.int .i32 imm)).put (some 121) (.int .i64 imm)).put (some 122) (.int .u64 K)).put (some 123) (.int .u64 v)).put (some 124) (.pointer (some ⟨c, 0, none⟩))).put (some 125) (.pointer (some ⟨c, 0, none⟩))).put (some 126) (.pointer (some ⟨c, A, none⟩))) (wA.drew.setCell ⟨c, A, none⟩ (.int .u64 v))) : code17.wp Try.prog Q a0 wA := by
  conv => arg 2; whnf
  refine wp_region_noPanic ?_
  refine wp_region_late (fun w' => w'.cell? ⟨X, 1, none⟩ = some (.int .i64 A) ∧ w'.cell? ⟨X, 2, none⟩ = some (.int .i64 B) ∧ w'.cell? ⟨X, 4, none⟩ = some (.int .i32 imm) ∧ w'.cell? ⟨c, B, none⟩ = some (.int .u64 b)) [2, 5, 9, 11] 19 (by rfl) (by kernel_rfl) ?_
  have cX1 : wA.drew.cell? ⟨X, 1, none⟩ = some (.int .i64 A) := cX10
  have cX2 : wA.drew.cell? ⟨X, 2, none⟩ = some (.int .i64 B) := cX20
  have cX4 : wA.drew.cell? ⟨X, 4, none⟩ = some (.int .i32 imm) := cX40
  have cB : wA.drew.cell? ⟨c, B, none⟩ = some (.int .u64 b) := cB0
  have cA : wA.drew.cell? ⟨c, A, none⟩ = some (.int .u64 a) := cA0
  have fA : wA.drew.frozen? ⟨c, A, none⟩ = false := fA0
  clear cX10 cX20 cX40 cB0 cA0 fA0
  generalize wA.drew = w5 at *
  have hv0 : a0.eval = a0.eval := rfl
  refine lt_pure (i := 0) (v := .pointer (some ⟨c, 0, none⟩)) (d := 109) hv0 (by rfl) (by kernel_rfl) (by kernel_rfl) (by kernel_rfl) (fun _ _ _ h => h) (by rfl) (fun w => rn_move rfl f0 w) rfl hs0 (by decide) (fun a1 ρ1 hp1 => ?_)
  have hv1 := hp1.ev
  have hs1 := hp1.sz
  have f109 := hp1.at'
  replace f0 := (hp1.rest 0 (by decide)).trans f0
  replace f4 := (hp1.rest 4 (by decide)).trans f4
  refine lt_pure (i := 1) (v := .pointer (some ⟨X, 1, none⟩)) (d := 110) hv1 (by rfl) (by kernel_rfl) (by kernel_rfl) (by kernel_rfl) (fun _ _ _ h => h) (by rfl) (fun w => rn_fd rfl f4 w) rfl hs1 (by decide) (fun a2 ρ2 hp2 => ?_)
  have hv2 := hp2.ev
  have hs2 := hp2.sz
  have f110 := hp2.at'
  replace f0 := (hp2.rest 0 (by decide)).trans f0
  replace f4 := (hp2.rest 4 (by decide)).trans f4
  replace f109 := (hp2.rest 109 (by decide)).trans f109
  refine lt_load (i := 2) (v := .int .i64 (A : Nat)) (d := 111) hv2 (by rfl) (by kernel_rfl) (by kernel_rfl) (by kernel_rfl) (by simp) (fun _ _ _ h => h) (by rfl) (fun w hS => rn_load3 rfl f110 w hS.1) ⟨cX1, cX2, cX4, cB⟩ rfl hs2 (by decide) (fun a3 ρ3 hp3 => ?_)
  have hv3 := hp3.ev
  have hs3 := hp3.sz
  have f111 := hp3.at'
  replace f0 := (hp3.rest 0 (by decide)).trans f0
  replace f4 := (hp3.rest 4 (by decide)).trans f4
  replace f109 := (hp3.rest 109 (by decide)).trans f109
  replace f110 := (hp3.rest 110 (by decide)).trans f110
  refine lt_pure (i := 3) (v := .pointer (some ⟨c, 0, none⟩)) (d := 112) hv3 (by rfl) (by kernel_rfl) (by kernel_rfl) (by kernel_rfl) (fun _ _ _ h => h) (by rfl) (fun w => rn_move rfl f0 w) rfl hs3 (by decide) (fun a4 ρ4 hp4 => ?_)
  have hv4 := hp4.ev
  have hs4 := hp4.sz
  have f112 := hp4.at'
  replace f0 := (hp4.rest 0 (by decide)).trans f0
  replace f4 := (hp4.rest 4 (by decide)).trans f4
  replace f109 := (hp4.rest 109 (by decide)).trans f109
  replace f110 := (hp4.rest 110 (by decide)).trans f110
  replace f111 := (hp4.rest 111 (by decide)).trans f111
  refine lt_pure (i := 4) (v := .pointer (some ⟨X, 2, none⟩)) (d := 113) hv4 (by rfl) (by kernel_rfl) (by kernel_rfl) (by kernel_rfl) (fun _ _ _ h => h) (by rfl) (fun w => rn_fd2 rfl f4 w) rfl hs4 (by decide) (fun a5 ρ5 hp5 => ?_)
  have hv5 := hp5.ev
  have hs5 := hp5.sz
  have f113 := hp5.at'
  replace f0 := (hp5.rest 0 (by decide)).trans f0
  replace f4 := (hp5.rest 4 (by decide)).trans f4
  replace f109 := (hp5.rest 109 (by decide)).trans f109
  replace f110 := (hp5.rest 110 (by decide)).trans f110
  replace f111 := (hp5.rest 111 (by decide)).trans f111
  replace f112 := (hp5.rest 112 (by decide)).trans f112
  refine lt_load (i := 5) (v := .int .i64 (B : Nat)) (d := 114) hv5 (by rfl) (by kernel_rfl) (by kernel_rfl) (by kernel_rfl) (by simp) (fun _ _ _ h => h) (by rfl) (fun w hS => rn_load3 rfl f113 w hS.2.1) ⟨cX1, cX2, cX4, cB⟩ rfl hs5 (by decide) (fun a6 ρ6 hp6 => ?_)
  have hv6 := hp6.ev
  have hs6 := hp6.sz
  have f114 := hp6.at'
  replace f0 := (hp6.rest 0 (by decide)).trans f0
  replace f4 := (hp6.rest 4 (by decide)).trans f4
  replace f109 := (hp6.rest 109 (by decide)).trans f109
  replace f110 := (hp6.rest 110 (by decide)).trans f110
  replace f111 := (hp6.rest 111 (by decide)).trans f111
  replace f112 := (hp6.rest 112 (by decide)).trans f112
  replace f113 := (hp6.rest 113 (by decide)).trans f113
  refine lt_pure (i := 6) (v := .pointer (some ⟨c, 0, none⟩)) (d := 115) hv6 (by rfl) (by kernel_rfl) (by kernel_rfl) (by kernel_rfl) (fun _ _ _ h => h) (by rfl) (fun w => rn_nil rfl f112 w) rfl hs6 (by decide) (fun a7 ρ7 hp7 => ?_)
  have hv7 := hp7.ev
  have hs7 := hp7.sz
  have f115 := hp7.at'
  replace f0 := (hp7.rest 0 (by decide)).trans f0
  replace f4 := (hp7.rest 4 (by decide)).trans f4
  replace f109 := (hp7.rest 109 (by decide)).trans f109
  replace f110 := (hp7.rest 110 (by decide)).trans f110
  replace f111 := (hp7.rest 111 (by decide)).trans f111
  replace f112 := (hp7.rest 112 (by decide)).trans f112
  replace f113 := (hp7.rest 113 (by decide)).trans f113
  replace f114 := (hp7.rest 114 (by decide)).trans f114
  refine lt_pure (i := 7) (v := .pointer (some ⟨c, 0, none⟩)) (d := 116) hv7 (by rfl) (by kernel_rfl) (by kernel_rfl) (by kernel_rfl) (fun _ _ _ h => h) (by rfl) (fun w => rn_f58 rfl f115 w) rfl hs7 (by decide) (fun a8 ρ8 hp8 => ?_)
  have hv8 := hp8.ev
  have hs8 := hp8.sz
  have f116 := hp8.at'
  replace f0 := (hp8.rest 0 (by decide)).trans f0
  replace f4 := (hp8.rest 4 (by decide)).trans f4
  replace f109 := (hp8.rest 109 (by decide)).trans f109
  replace f110 := (hp8.rest 110 (by decide)).trans f110
  replace f111 := (hp8.rest 111 (by decide)).trans f111
  replace f112 := (hp8.rest 112 (by decide)).trans f112
  replace f113 := (hp8.rest 113 (by decide)).trans f113
  replace f114 := (hp8.rest 114 (by decide)).trans f114
  replace f115 := (hp8.rest 115 (by decide)).trans f115
  refine lt_pure (i := 8) (v := .pointer (some ⟨c, B, none⟩)) (d := 117) hv8 (by rfl) (by kernel_rfl) (by kernel_rfl) (by kernel_rfl) (fun _ _ _ h => h) (by rfl) (fun w => rn_ix55 rfl f116 f114 hB w) rfl hs8 (by decide) (fun a9 ρ9 hp9 => ?_)
  have hv9 := hp9.ev
  have hs9 := hp9.sz
  have f117 := hp9.at'
  replace f0 := (hp9.rest 0 (by decide)).trans f0
  replace f4 := (hp9.rest 4 (by decide)).trans f4
  replace f109 := (hp9.rest 109 (by decide)).trans f109
  replace f110 := (hp9.rest 110 (by decide)).trans f110
  replace f111 := (hp9.rest 111 (by decide)).trans f111
  replace f112 := (hp9.rest 112 (by decide)).trans f112
  replace f113 := (hp9.rest 113 (by decide)).trans f113
  replace f114 := (hp9.rest 114 (by decide)).trans f114
  replace f115 := (hp9.rest 115 (by decide)).trans f115
  replace f116 := (hp9.rest 116 (by decide)).trans f116
  refine lt_load (i := 9) (v := .int .u64 b) (d := 118) hv9 (by rfl) (by kernel_rfl) (by kernel_rfl) (by kernel_rfl) (by simp) (fun _ _ _ h => h) (by rfl) (fun w hS => rn_load22 rfl f117 w hS.2.2.2) ⟨cX1, cX2, cX4, cB⟩ rfl hs9 (by decide) (fun a10 ρ10 hp10 => ?_)
  have hv10 := hp10.ev
  have hs10 := hp10.sz
  have f118 := hp10.at'
  replace f0 := (hp10.rest 0 (by decide)).trans f0
  replace f4 := (hp10.rest 4 (by decide)).trans f4
  replace f109 := (hp10.rest 109 (by decide)).trans f109
  replace f110 := (hp10.rest 110 (by decide)).trans f110
  replace f111 := (hp10.rest 111 (by decide)).trans f111
  replace f112 := (hp10.rest 112 (by decide)).trans f112
  replace f113 := (hp10.rest 113 (by decide)).trans f113
  replace f114 := (hp10.rest 114 (by decide)).trans f114
  replace f115 := (hp10.rest 115 (by decide)).trans f115
  replace f116 := (hp10.rest 116 (by decide)).trans f116
  replace f117 := (hp10.rest 117 (by decide)).trans f117
  refine lt_pure (i := 10) (v := .pointer (some ⟨X, 4, none⟩)) (d := 119) hv10 (by rfl) (by kernel_rfl) (by kernel_rfl) (by kernel_rfl) (fun _ _ _ h => h) (by rfl) (fun w => rn_fd4 rfl f4 w) rfl hs10 (by decide) (fun a11 ρ11 hp11 => ?_)
  have hv11 := hp11.ev
  have hs11 := hp11.sz
  have f119 := hp11.at'
  replace f0 := (hp11.rest 0 (by decide)).trans f0
  replace f4 := (hp11.rest 4 (by decide)).trans f4
  replace f109 := (hp11.rest 109 (by decide)).trans f109
  replace f110 := (hp11.rest 110 (by decide)).trans f110
  replace f111 := (hp11.rest 111 (by decide)).trans f111
  replace f112 := (hp11.rest 112 (by decide)).trans f112
  replace f113 := (hp11.rest 113 (by decide)).trans f113
  replace f114 := (hp11.rest 114 (by decide)).trans f114
  replace f115 := (hp11.rest 115 (by decide)).trans f115
  replace f116 := (hp11.rest 116 (by decide)).trans f116
  replace f117 := (hp11.rest 117 (by decide)).trans f117
  replace f118 := (hp11.rest 118 (by decide)).trans f118
  refine lt_load (i := 11) (v := .int .i32 imm) (d := 120) hv11 (by rfl) (by kernel_rfl) (by kernel_rfl) (by kernel_rfl) (by simp) (fun _ _ _ h => h) (by rfl) (fun w hS => rn_load21 rfl f119 w hS.2.2.1) ⟨cX1, cX2, cX4, cB⟩ rfl hs11 (by decide) (fun a12 ρ12 hp12 => ?_)
  have hv12 := hp12.ev
  have hs12 := hp12.sz
  have f120 := hp12.at'
  replace f0 := (hp12.rest 0 (by decide)).trans f0
  replace f4 := (hp12.rest 4 (by decide)).trans f4
  replace f109 := (hp12.rest 109 (by decide)).trans f109
  replace f110 := (hp12.rest 110 (by decide)).trans f110
  replace f111 := (hp12.rest 111 (by decide)).trans f111
  replace f112 := (hp12.rest 112 (by decide)).trans f112
  replace f113 := (hp12.rest 113 (by decide)).trans f113
  replace f114 := (hp12.rest 114 (by decide)).trans f114
  replace f115 := (hp12.rest 115 (by decide)).trans f115
  replace f116 := (hp12.rest 116 (by decide)).trans f116
  replace f117 := (hp12.rest 117 (by decide)).trans f117
  replace f118 := (hp12.rest 118 (by decide)).trans f118
  replace f119 := (hp12.rest 119 (by decide)).trans f119
  refine lt_pure (i := 12) (v := .int .i64 imm) (d := 121) hv12 (by rfl) (by kernel_rfl) (by kernel_rfl) (by kernel_rfl) (fun _ _ _ h => h) (by rfl) (fun w => rn_cv1 rfl f120 hI w) rfl hs12 (by decide) (fun a13 ρ13 hp13 => ?_)
  have hv13 := hp13.ev
  have hs13 := hp13.sz
  have f121 := hp13.at'
  replace f0 := (hp13.rest 0 (by decide)).trans f0
  replace f4 := (hp13.rest 4 (by decide)).trans f4
  replace f109 := (hp13.rest 109 (by decide)).trans f109
  replace f110 := (hp13.rest 110 (by decide)).trans f110
  replace f111 := (hp13.rest 111 (by decide)).trans f111
  replace f112 := (hp13.rest 112 (by decide)).trans f112
  replace f113 := (hp13.rest 113 (by decide)).trans f113
  replace f114 := (hp13.rest 114 (by decide)).trans f114
  replace f115 := (hp13.rest 115 (by decide)).trans f115
  replace f116 := (hp13.rest 116 (by decide)).trans f116
  replace f117 := (hp13.rest 117 (by decide)).trans f117
  replace f118 := (hp13.rest 118 (by decide)).trans f118
  replace f119 := (hp13.rest 119 (by decide)).trans f119
  replace f120 := (hp13.rest 120 (by decide)).trans f120
  refine lt_pure (i := 13) (v := .int .u64 K) (d := 122) hv13 (by rfl) (by kernel_rfl) (by kernel_rfl) (by kernel_rfl) (fun _ _ _ h => h) (by rfl) (fun w => rn_cv2 rfl f121 hK w) rfl hs13 (by decide) (fun a14 ρ14 hp14 => ?_)
  have hv14 := hp14.ev
  have hs14 := hp14.sz
  have f122 := hp14.at'
  replace f0 := (hp14.rest 0 (by decide)).trans f0
  replace f4 := (hp14.rest 4 (by decide)).trans f4
  replace f109 := (hp14.rest 109 (by decide)).trans f109
  replace f110 := (hp14.rest 110 (by decide)).trans f110
  replace f111 := (hp14.rest 111 (by decide)).trans f111
  replace f112 := (hp14.rest 112 (by decide)).trans f112
  replace f113 := (hp14.rest 113 (by decide)).trans f113
  replace f114 := (hp14.rest 114 (by decide)).trans f114
  replace f115 := (hp14.rest 115 (by decide)).trans f115
  replace f116 := (hp14.rest 116 (by decide)).trans f116
  replace f117 := (hp14.rest 117 (by decide)).trans f117
  replace f118 := (hp14.rest 118 (by decide)).trans f118
  replace f119 := (hp14.rest 119 (by decide)).trans f119
  replace f120 := (hp14.rest 120 (by decide)).trans f120
  replace f121 := (hp14.rest 121 (by decide)).trans f121
  refine lt_pure (i := 14) (v := .int .u64 v) (d := 123) hv14 (by rfl) (by kernel_rfl) (by kernel_rfl) (by kernel_rfl) (fun _ _ _ h => h) (by rfl) (fun w => rn_add22 rfl f118 f122 hv w) rfl hs14 (by decide) (fun a15 ρ15 hp15 => ?_)
  have hv15 := hp15.ev
  have hs15 := hp15.sz
  have f123 := hp15.at'
  replace f0 := (hp15.rest 0 (by decide)).trans f0
  replace f4 := (hp15.rest 4 (by decide)).trans f4
  replace f109 := (hp15.rest 109 (by decide)).trans f109
  replace f110 := (hp15.rest 110 (by decide)).trans f110
  replace f111 := (hp15.rest 111 (by decide)).trans f111
  replace f112 := (hp15.rest 112 (by decide)).trans f112
  replace f113 := (hp15.rest 113 (by decide)).trans f113
  replace f114 := (hp15.rest 114 (by decide)).trans f114
  replace f115 := (hp15.rest 115 (by decide)).trans f115
  replace f116 := (hp15.rest 116 (by decide)).trans f116
  replace f117 := (hp15.rest 117 (by decide)).trans f117
  replace f118 := (hp15.rest 118 (by decide)).trans f118
  replace f119 := (hp15.rest 119 (by decide)).trans f119
  replace f120 := (hp15.rest 120 (by decide)).trans f120
  replace f121 := (hp15.rest 121 (by decide)).trans f121
  replace f122 := (hp15.rest 122 (by decide)).trans f122
  refine lt_pure (i := 15) (v := .pointer (some ⟨c, 0, none⟩)) (d := 124) hv15 (by rfl) (by kernel_rfl) (by kernel_rfl) (by kernel_rfl) (fun _ _ _ h => h) (by rfl) (fun w => rn_nil rfl f109 w) rfl hs15 (by decide) (fun a16 ρ16 hp16 => ?_)
  have hv16 := hp16.ev
  have hs16 := hp16.sz
  have f124 := hp16.at'
  replace f0 := (hp16.rest 0 (by decide)).trans f0
  replace f4 := (hp16.rest 4 (by decide)).trans f4
  replace f109 := (hp16.rest 109 (by decide)).trans f109
  replace f110 := (hp16.rest 110 (by decide)).trans f110
  replace f111 := (hp16.rest 111 (by decide)).trans f111
  replace f112 := (hp16.rest 112 (by decide)).trans f112
  replace f113 := (hp16.rest 113 (by decide)).trans f113
  replace f114 := (hp16.rest 114 (by decide)).trans f114
  replace f115 := (hp16.rest 115 (by decide)).trans f115
  replace f116 := (hp16.rest 116 (by decide)).trans f116
  replace f117 := (hp16.rest 117 (by decide)).trans f117
  replace f118 := (hp16.rest 118 (by decide)).trans f118
  replace f119 := (hp16.rest 119 (by decide)).trans f119
  replace f120 := (hp16.rest 120 (by decide)).trans f120
  replace f121 := (hp16.rest 121 (by decide)).trans f121
  replace f122 := (hp16.rest 122 (by decide)).trans f122
  replace f123 := (hp16.rest 123 (by decide)).trans f123
  refine lt_pure (i := 16) (v := .pointer (some ⟨c, 0, none⟩)) (d := 125) hv16 (by rfl) (by kernel_rfl) (by kernel_rfl) (by kernel_rfl) (fun _ _ _ h => h) (by rfl) (fun w => rn_f58 rfl f124 w) rfl hs16 (by decide) (fun a17 ρ17 hp17 => ?_)
  have hv17 := hp17.ev
  have hs17 := hp17.sz
  have f125 := hp17.at'
  replace f0 := (hp17.rest 0 (by decide)).trans f0
  replace f4 := (hp17.rest 4 (by decide)).trans f4
  replace f109 := (hp17.rest 109 (by decide)).trans f109
  replace f110 := (hp17.rest 110 (by decide)).trans f110
  replace f111 := (hp17.rest 111 (by decide)).trans f111
  replace f112 := (hp17.rest 112 (by decide)).trans f112
  replace f113 := (hp17.rest 113 (by decide)).trans f113
  replace f114 := (hp17.rest 114 (by decide)).trans f114
  replace f115 := (hp17.rest 115 (by decide)).trans f115
  replace f116 := (hp17.rest 116 (by decide)).trans f116
  replace f117 := (hp17.rest 117 (by decide)).trans f117
  replace f118 := (hp17.rest 118 (by decide)).trans f118
  replace f119 := (hp17.rest 119 (by decide)).trans f119
  replace f120 := (hp17.rest 120 (by decide)).trans f120
  replace f121 := (hp17.rest 121 (by decide)).trans f121
  replace f122 := (hp17.rest 122 (by decide)).trans f122
  replace f123 := (hp17.rest 123 (by decide)).trans f123
  replace f124 := (hp17.rest 124 (by decide)).trans f124
  refine lt_pure (i := 17) (v := .pointer (some ⟨c, A, none⟩)) (d := 126) hv17 (by rfl) (by kernel_rfl) (by kernel_rfl) (by kernel_rfl) (fun _ _ _ h => h) (by rfl) (fun w => rn_ix55 rfl f125 f111 hA w) rfl hs17 (by decide) (fun a18 ρ18 hp18 => ?_)
  have hv18 := hp18.ev
  have hs18 := hp18.sz
  have f126 := hp18.at'
  replace f0 := (hp18.rest 0 (by decide)).trans f0
  replace f4 := (hp18.rest 4 (by decide)).trans f4
  replace f109 := (hp18.rest 109 (by decide)).trans f109
  replace f110 := (hp18.rest 110 (by decide)).trans f110
  replace f111 := (hp18.rest 111 (by decide)).trans f111
  replace f112 := (hp18.rest 112 (by decide)).trans f112
  replace f113 := (hp18.rest 113 (by decide)).trans f113
  replace f114 := (hp18.rest 114 (by decide)).trans f114
  replace f115 := (hp18.rest 115 (by decide)).trans f115
  replace f116 := (hp18.rest 116 (by decide)).trans f116
  replace f117 := (hp18.rest 117 (by decide)).trans f117
  replace f118 := (hp18.rest 118 (by decide)).trans f118
  replace f119 := (hp18.rest 119 (by decide)).trans f119
  replace f120 := (hp18.rest 120 (by decide)).trans f120
  replace f121 := (hp18.rest 121 (by decide)).trans f121
  replace f122 := (hp18.rest 122 (by decide)).trans f122
  replace f123 := (hp18.rest 123 (by decide)).trans f123
  replace f124 := (hp18.rest 124 (by decide)).trans f124
  replace f125 := (hp18.rest 125 (by decide)).trans f125
  refine wpLate_one (i := 18) (by kernel_rfl) ?_
  refine lt_skip (w' := w5.setCell ⟨c, A, none⟩ (.int .u64 v)) hv18 (by rfl) (by rfl) (rn_store22 rfl f126 f123 w5 cA fA) rfl (fun h => (Bool.noConfusion ((show lateOn _ _ _ _ = true from (by kernel_rfl)).symm.trans h))) ?_
  refine wpLate_done (by kernel_rfl) ?_
  refine NoPanic.normal ?_
  have hq := hQ
  rw [hp1.eq, hp2.eq, hp3.eq, hp4.eq, hp5.eq, hp6.eq, hp7.eq, hp8.eq, hp9.eq, hp10.eq, hp11.eq, hp12.eq, hp13.eq, hp14.eq, hp15.eq, hp16.eq, hp17.eq, hp18.eq] at hq
  exact hq
set_option maxRecDepth 100000 in
set_option maxHeartbeats 4000000 in
theorem hi_reg (c A X : Nat) (a imm o u q v : Int) (wA : World) (hA : A < 16) (ho : a.tmod 4294967296 = o) (hu : IntKind.u32.wrap imm = u) (huw : IntKind.u64.wrap u = u) (hq : IntKind.u64.wrap (u * 4294967296) = q) (hv : IntKind.u64.wrap (o + q) = v)
    (cX10 : wA.cell? ⟨X, 1, none⟩ = some (.int .i64 A)) (cX40 : wA.cell? ⟨X, 4, none⟩ = some (.int .i32 imm)) (cA0 : wA.cell? ⟨c, A, none⟩ = some (.int .u64 a)) (fA0 : wA.frozen? ⟨c, A, none⟩ = false)
    (a0 : Act) (hs0 : a0.tmps.size = 206) (f0 : a0.eval (.tmp 0) = .pointer (some ⟨c, 0, none⟩)) (f4 : a0.eval (.tmp 4) = .pointer (some ⟨X, 0, none⟩)) (Q : Exit → Act → World → Prop)
    (hQ : Q .normal ((((((((((((((((((((a0.put (some 85) (.pointer (some ⟨c, 0, none⟩))).put (some 86) (.pointer (some ⟨X, 1, none⟩))).put (some 87) (.int .i64 (A : Nat))).put (some 88) (.pointer (some ⟨c, 0, none⟩))).put (some 89) (.pointer (some ⟨X, 1, none⟩))).put (some 90) (.int .i64 (A : Nat))).put (some 91) (.pointer (some ⟨c, 0, none⟩))).put (some 92) (.pointer (some ⟨c, 0, none⟩))).put (some 93) (.pointer (some ⟨c, A, none⟩))).put (some 94) (.int .u64 a)).put (some 95) (.int .u64 o)).put (some 96) (.pointer (some ⟨X, 4, none⟩))).put (some 97) (.int .i32 imm)).put (some 98) (.int .u32 u)).put (some 99) (.int .u64 u)).put (some 100) (.int .u64 q)).put (some 101) (.int .u64 v)).put (some 102) (.pointer (some ⟨c, 0, none⟩))).put (some 103) (.pointer (some ⟨c, 0, none⟩))).put (some 104) (.pointer (some ⟨c, A, none⟩))) (wA.drew.setCell ⟨c, A, none⟩ (.int .u64 v))) : code15.wp Try.prog Q a0 wA := by
  conv => arg 2; whnf
  refine wp_region_noPanic ?_
  refine wp_region_late (fun w' => w'.cell? ⟨X, 1, none⟩ = some (.int .i64 A) ∧ w'.cell? ⟨X, 4, none⟩ = some (.int .i32 imm) ∧ w'.cell? ⟨c, A, none⟩ = some (.int .u64 a)) [2, 5, 9, 12] 21 (by rfl) (by kernel_rfl) ?_
  have cX1 : wA.drew.cell? ⟨X, 1, none⟩ = some (.int .i64 A) := cX10
  have cX4 : wA.drew.cell? ⟨X, 4, none⟩ = some (.int .i32 imm) := cX40
  have cA : wA.drew.cell? ⟨c, A, none⟩ = some (.int .u64 a) := cA0
  have fA : wA.drew.frozen? ⟨c, A, none⟩ = false := fA0
  clear cX10 cX40 cA0 fA0
  generalize wA.drew = w5 at *
  have hv0 : a0.eval = a0.eval := rfl
  refine lt_pure (i := 0) (v := .pointer (some ⟨c, 0, none⟩)) (d := 85) hv0 (by rfl) (by kernel_rfl) (by kernel_rfl) (by kernel_rfl) (fun _ _ _ h => h) (by rfl) (fun w => rn_move rfl f0 w) rfl hs0 (by decide) (fun a1 ρ1 hp1 => ?_)
  have hv1 := hp1.ev
  have hs1 := hp1.sz
  have f85 := hp1.at'
  replace f0 := (hp1.rest 0 (by decide)).trans f0
  replace f4 := (hp1.rest 4 (by decide)).trans f4
  refine lt_pure (i := 1) (v := .pointer (some ⟨X, 1, none⟩)) (d := 86) hv1 (by rfl) (by kernel_rfl) (by kernel_rfl) (by kernel_rfl) (fun _ _ _ h => h) (by rfl) (fun w => rn_fd rfl f4 w) rfl hs1 (by decide) (fun a2 ρ2 hp2 => ?_)
  have hv2 := hp2.ev
  have hs2 := hp2.sz
  have f86 := hp2.at'
  replace f0 := (hp2.rest 0 (by decide)).trans f0
  replace f4 := (hp2.rest 4 (by decide)).trans f4
  replace f85 := (hp2.rest 85 (by decide)).trans f85
  refine lt_load (i := 2) (v := .int .i64 (A : Nat)) (d := 87) hv2 (by rfl) (by kernel_rfl) (by kernel_rfl) (by kernel_rfl) (by simp) (fun _ _ _ h => h) (by rfl) (fun w hS => rn_load3 rfl f86 w hS.1) ⟨cX1, cX4, cA⟩ rfl hs2 (by decide) (fun a3 ρ3 hp3 => ?_)
  have hv3 := hp3.ev
  have hs3 := hp3.sz
  have f87 := hp3.at'
  replace f0 := (hp3.rest 0 (by decide)).trans f0
  replace f4 := (hp3.rest 4 (by decide)).trans f4
  replace f85 := (hp3.rest 85 (by decide)).trans f85
  replace f86 := (hp3.rest 86 (by decide)).trans f86
  refine lt_pure (i := 3) (v := .pointer (some ⟨c, 0, none⟩)) (d := 88) hv3 (by rfl) (by kernel_rfl) (by kernel_rfl) (by kernel_rfl) (fun _ _ _ h => h) (by rfl) (fun w => rn_move rfl f0 w) rfl hs3 (by decide) (fun a4 ρ4 hp4 => ?_)
  have hv4 := hp4.ev
  have hs4 := hp4.sz
  have f88 := hp4.at'
  replace f0 := (hp4.rest 0 (by decide)).trans f0
  replace f4 := (hp4.rest 4 (by decide)).trans f4
  replace f85 := (hp4.rest 85 (by decide)).trans f85
  replace f86 := (hp4.rest 86 (by decide)).trans f86
  replace f87 := (hp4.rest 87 (by decide)).trans f87
  refine lt_pure (i := 4) (v := .pointer (some ⟨X, 1, none⟩)) (d := 89) hv4 (by rfl) (by kernel_rfl) (by kernel_rfl) (by kernel_rfl) (fun _ _ _ h => h) (by rfl) (fun w => rn_fd rfl f4 w) rfl hs4 (by decide) (fun a5 ρ5 hp5 => ?_)
  have hv5 := hp5.ev
  have hs5 := hp5.sz
  have f89 := hp5.at'
  replace f0 := (hp5.rest 0 (by decide)).trans f0
  replace f4 := (hp5.rest 4 (by decide)).trans f4
  replace f85 := (hp5.rest 85 (by decide)).trans f85
  replace f86 := (hp5.rest 86 (by decide)).trans f86
  replace f87 := (hp5.rest 87 (by decide)).trans f87
  replace f88 := (hp5.rest 88 (by decide)).trans f88
  refine lt_load (i := 5) (v := .int .i64 (A : Nat)) (d := 90) hv5 (by rfl) (by kernel_rfl) (by kernel_rfl) (by kernel_rfl) (by simp) (fun _ _ _ h => h) (by rfl) (fun w hS => rn_load3 rfl f89 w hS.1) ⟨cX1, cX4, cA⟩ rfl hs5 (by decide) (fun a6 ρ6 hp6 => ?_)
  have hv6 := hp6.ev
  have hs6 := hp6.sz
  have f90 := hp6.at'
  replace f0 := (hp6.rest 0 (by decide)).trans f0
  replace f4 := (hp6.rest 4 (by decide)).trans f4
  replace f85 := (hp6.rest 85 (by decide)).trans f85
  replace f86 := (hp6.rest 86 (by decide)).trans f86
  replace f87 := (hp6.rest 87 (by decide)).trans f87
  replace f88 := (hp6.rest 88 (by decide)).trans f88
  replace f89 := (hp6.rest 89 (by decide)).trans f89
  refine lt_pure (i := 6) (v := .pointer (some ⟨c, 0, none⟩)) (d := 91) hv6 (by rfl) (by kernel_rfl) (by kernel_rfl) (by kernel_rfl) (fun _ _ _ h => h) (by rfl) (fun w => rn_nil rfl f88 w) rfl hs6 (by decide) (fun a7 ρ7 hp7 => ?_)
  have hv7 := hp7.ev
  have hs7 := hp7.sz
  have f91 := hp7.at'
  replace f0 := (hp7.rest 0 (by decide)).trans f0
  replace f4 := (hp7.rest 4 (by decide)).trans f4
  replace f85 := (hp7.rest 85 (by decide)).trans f85
  replace f86 := (hp7.rest 86 (by decide)).trans f86
  replace f87 := (hp7.rest 87 (by decide)).trans f87
  replace f88 := (hp7.rest 88 (by decide)).trans f88
  replace f89 := (hp7.rest 89 (by decide)).trans f89
  replace f90 := (hp7.rest 90 (by decide)).trans f90
  refine lt_pure (i := 7) (v := .pointer (some ⟨c, 0, none⟩)) (d := 92) hv7 (by rfl) (by kernel_rfl) (by kernel_rfl) (by kernel_rfl) (fun _ _ _ h => h) (by rfl) (fun w => rn_f58 rfl f91 w) rfl hs7 (by decide) (fun a8 ρ8 hp8 => ?_)
  have hv8 := hp8.ev
  have hs8 := hp8.sz
  have f92 := hp8.at'
  replace f0 := (hp8.rest 0 (by decide)).trans f0
  replace f4 := (hp8.rest 4 (by decide)).trans f4
  replace f85 := (hp8.rest 85 (by decide)).trans f85
  replace f86 := (hp8.rest 86 (by decide)).trans f86
  replace f87 := (hp8.rest 87 (by decide)).trans f87
  replace f88 := (hp8.rest 88 (by decide)).trans f88
  replace f89 := (hp8.rest 89 (by decide)).trans f89
  replace f90 := (hp8.rest 90 (by decide)).trans f90
  replace f91 := (hp8.rest 91 (by decide)).trans f91
  refine lt_pure (i := 8) (v := .pointer (some ⟨c, A, none⟩)) (d := 93) hv8 (by rfl) (by kernel_rfl) (by kernel_rfl) (by kernel_rfl) (fun _ _ _ h => h) (by rfl) (fun w => rn_ix55 rfl f92 f90 hA w) rfl hs8 (by decide) (fun a9 ρ9 hp9 => ?_)
  have hv9 := hp9.ev
  have hs9 := hp9.sz
  have f93 := hp9.at'
  replace f0 := (hp9.rest 0 (by decide)).trans f0
  replace f4 := (hp9.rest 4 (by decide)).trans f4
  replace f85 := (hp9.rest 85 (by decide)).trans f85
  replace f86 := (hp9.rest 86 (by decide)).trans f86
  replace f87 := (hp9.rest 87 (by decide)).trans f87
  replace f88 := (hp9.rest 88 (by decide)).trans f88
  replace f89 := (hp9.rest 89 (by decide)).trans f89
  replace f90 := (hp9.rest 90 (by decide)).trans f90
  replace f91 := (hp9.rest 91 (by decide)).trans f91
  replace f92 := (hp9.rest 92 (by decide)).trans f92
  refine lt_load (i := 9) (v := .int .u64 a) (d := 94) hv9 (by rfl) (by kernel_rfl) (by kernel_rfl) (by kernel_rfl) (by simp) (fun _ _ _ h => h) (by rfl) (fun w hS => rn_load22 rfl f93 w hS.2.2) ⟨cX1, cX4, cA⟩ rfl hs9 (by decide) (fun a10 ρ10 hp10 => ?_)
  have hv10 := hp10.ev
  have hs10 := hp10.sz
  have f94 := hp10.at'
  replace f0 := (hp10.rest 0 (by decide)).trans f0
  replace f4 := (hp10.rest 4 (by decide)).trans f4
  replace f85 := (hp10.rest 85 (by decide)).trans f85
  replace f86 := (hp10.rest 86 (by decide)).trans f86
  replace f87 := (hp10.rest 87 (by decide)).trans f87
  replace f88 := (hp10.rest 88 (by decide)).trans f88
  replace f89 := (hp10.rest 89 (by decide)).trans f89
  replace f90 := (hp10.rest 90 (by decide)).trans f90
  replace f91 := (hp10.rest 91 (by decide)).trans f91
  replace f92 := (hp10.rest 92 (by decide)).trans f92
  replace f93 := (hp10.rest 93 (by decide)).trans f93
  refine lt_pure (i := 10) (v := .int .u64 o) (d := 95) hv10 (by rfl) (by kernel_rfl) (by kernel_rfl) (by kernel_rfl) (fun _ _ _ h => h) (by rfl) (fun w => rn_rem22 rfl (by rw [← hv10]; rfl) f94 ho w) rfl hs10 (by decide) (fun a11 ρ11 hp11 => ?_)
  have hv11 := hp11.ev
  have hs11 := hp11.sz
  have f95 := hp11.at'
  replace f0 := (hp11.rest 0 (by decide)).trans f0
  replace f4 := (hp11.rest 4 (by decide)).trans f4
  replace f85 := (hp11.rest 85 (by decide)).trans f85
  replace f86 := (hp11.rest 86 (by decide)).trans f86
  replace f87 := (hp11.rest 87 (by decide)).trans f87
  replace f88 := (hp11.rest 88 (by decide)).trans f88
  replace f89 := (hp11.rest 89 (by decide)).trans f89
  replace f90 := (hp11.rest 90 (by decide)).trans f90
  replace f91 := (hp11.rest 91 (by decide)).trans f91
  replace f92 := (hp11.rest 92 (by decide)).trans f92
  replace f93 := (hp11.rest 93 (by decide)).trans f93
  replace f94 := (hp11.rest 94 (by decide)).trans f94
  refine lt_pure (i := 11) (v := .pointer (some ⟨X, 4, none⟩)) (d := 96) hv11 (by rfl) (by kernel_rfl) (by kernel_rfl) (by kernel_rfl) (fun _ _ _ h => h) (by rfl) (fun w => rn_fd4 rfl f4 w) rfl hs11 (by decide) (fun a12 ρ12 hp12 => ?_)
  have hv12 := hp12.ev
  have hs12 := hp12.sz
  have f96 := hp12.at'
  replace f0 := (hp12.rest 0 (by decide)).trans f0
  replace f4 := (hp12.rest 4 (by decide)).trans f4
  replace f85 := (hp12.rest 85 (by decide)).trans f85
  replace f86 := (hp12.rest 86 (by decide)).trans f86
  replace f87 := (hp12.rest 87 (by decide)).trans f87
  replace f88 := (hp12.rest 88 (by decide)).trans f88
  replace f89 := (hp12.rest 89 (by decide)).trans f89
  replace f90 := (hp12.rest 90 (by decide)).trans f90
  replace f91 := (hp12.rest 91 (by decide)).trans f91
  replace f92 := (hp12.rest 92 (by decide)).trans f92
  replace f93 := (hp12.rest 93 (by decide)).trans f93
  replace f94 := (hp12.rest 94 (by decide)).trans f94
  replace f95 := (hp12.rest 95 (by decide)).trans f95
  refine lt_load (i := 12) (v := .int .i32 imm) (d := 97) hv12 (by rfl) (by kernel_rfl) (by kernel_rfl) (by kernel_rfl) (by simp) (fun _ _ _ h => h) (by rfl) (fun w hS => rn_load21 rfl f96 w hS.2.1) ⟨cX1, cX4, cA⟩ rfl hs12 (by decide) (fun a13 ρ13 hp13 => ?_)
  have hv13 := hp13.ev
  have hs13 := hp13.sz
  have f97 := hp13.at'
  replace f0 := (hp13.rest 0 (by decide)).trans f0
  replace f4 := (hp13.rest 4 (by decide)).trans f4
  replace f85 := (hp13.rest 85 (by decide)).trans f85
  replace f86 := (hp13.rest 86 (by decide)).trans f86
  replace f87 := (hp13.rest 87 (by decide)).trans f87
  replace f88 := (hp13.rest 88 (by decide)).trans f88
  replace f89 := (hp13.rest 89 (by decide)).trans f89
  replace f90 := (hp13.rest 90 (by decide)).trans f90
  replace f91 := (hp13.rest 91 (by decide)).trans f91
  replace f92 := (hp13.rest 92 (by decide)).trans f92
  replace f93 := (hp13.rest 93 (by decide)).trans f93
  replace f94 := (hp13.rest 94 (by decide)).trans f94
  replace f95 := (hp13.rest 95 (by decide)).trans f95
  replace f96 := (hp13.rest 96 (by decide)).trans f96
  refine lt_pure (i := 13) (v := .int .u32 u) (d := 98) hv13 (by rfl) (by kernel_rfl) (by kernel_rfl) (by kernel_rfl) (fun _ _ _ h => h) (by rfl) (fun w => rn_cv3 rfl f97 hu w) rfl hs13 (by decide) (fun a14 ρ14 hp14 => ?_)
  have hv14 := hp14.ev
  have hs14 := hp14.sz
  have f98 := hp14.at'
  replace f0 := (hp14.rest 0 (by decide)).trans f0
  replace f4 := (hp14.rest 4 (by decide)).trans f4
  replace f85 := (hp14.rest 85 (by decide)).trans f85
  replace f86 := (hp14.rest 86 (by decide)).trans f86
  replace f87 := (hp14.rest 87 (by decide)).trans f87
  replace f88 := (hp14.rest 88 (by decide)).trans f88
  replace f89 := (hp14.rest 89 (by decide)).trans f89
  replace f90 := (hp14.rest 90 (by decide)).trans f90
  replace f91 := (hp14.rest 91 (by decide)).trans f91
  replace f92 := (hp14.rest 92 (by decide)).trans f92
  replace f93 := (hp14.rest 93 (by decide)).trans f93
  replace f94 := (hp14.rest 94 (by decide)).trans f94
  replace f95 := (hp14.rest 95 (by decide)).trans f95
  replace f96 := (hp14.rest 96 (by decide)).trans f96
  replace f97 := (hp14.rest 97 (by decide)).trans f97
  refine lt_pure (i := 14) (v := .int .u64 u) (d := 99) hv14 (by rfl) (by kernel_rfl) (by kernel_rfl) (by kernel_rfl) (fun _ _ _ h => h) (by rfl) (fun w => rn_cv4 rfl f98 huw w) rfl hs14 (by decide) (fun a15 ρ15 hp15 => ?_)
  have hv15 := hp15.ev
  have hs15 := hp15.sz
  have f99 := hp15.at'
  replace f0 := (hp15.rest 0 (by decide)).trans f0
  replace f4 := (hp15.rest 4 (by decide)).trans f4
  replace f85 := (hp15.rest 85 (by decide)).trans f85
  replace f86 := (hp15.rest 86 (by decide)).trans f86
  replace f87 := (hp15.rest 87 (by decide)).trans f87
  replace f88 := (hp15.rest 88 (by decide)).trans f88
  replace f89 := (hp15.rest 89 (by decide)).trans f89
  replace f90 := (hp15.rest 90 (by decide)).trans f90
  replace f91 := (hp15.rest 91 (by decide)).trans f91
  replace f92 := (hp15.rest 92 (by decide)).trans f92
  replace f93 := (hp15.rest 93 (by decide)).trans f93
  replace f94 := (hp15.rest 94 (by decide)).trans f94
  replace f95 := (hp15.rest 95 (by decide)).trans f95
  replace f96 := (hp15.rest 96 (by decide)).trans f96
  replace f97 := (hp15.rest 97 (by decide)).trans f97
  replace f98 := (hp15.rest 98 (by decide)).trans f98
  refine lt_pure (i := 15) (v := .int .u64 q) (d := 100) hv15 (by rfl) (by kernel_rfl) (by kernel_rfl) (by kernel_rfl) (fun _ _ _ h => h) (by rfl) (fun w => rn_shl32 rfl (by rw [← hv15]; rfl) f99 hq w) rfl hs15 (by decide) (fun a16 ρ16 hp16 => ?_)
  have hv16 := hp16.ev
  have hs16 := hp16.sz
  have f100 := hp16.at'
  replace f0 := (hp16.rest 0 (by decide)).trans f0
  replace f4 := (hp16.rest 4 (by decide)).trans f4
  replace f85 := (hp16.rest 85 (by decide)).trans f85
  replace f86 := (hp16.rest 86 (by decide)).trans f86
  replace f87 := (hp16.rest 87 (by decide)).trans f87
  replace f88 := (hp16.rest 88 (by decide)).trans f88
  replace f89 := (hp16.rest 89 (by decide)).trans f89
  replace f90 := (hp16.rest 90 (by decide)).trans f90
  replace f91 := (hp16.rest 91 (by decide)).trans f91
  replace f92 := (hp16.rest 92 (by decide)).trans f92
  replace f93 := (hp16.rest 93 (by decide)).trans f93
  replace f94 := (hp16.rest 94 (by decide)).trans f94
  replace f95 := (hp16.rest 95 (by decide)).trans f95
  replace f96 := (hp16.rest 96 (by decide)).trans f96
  replace f97 := (hp16.rest 97 (by decide)).trans f97
  replace f98 := (hp16.rest 98 (by decide)).trans f98
  replace f99 := (hp16.rest 99 (by decide)).trans f99
  refine lt_pure (i := 16) (v := .int .u64 v) (d := 101) hv16 (by rfl) (by kernel_rfl) (by kernel_rfl) (by kernel_rfl) (fun _ _ _ h => h) (by rfl) (fun w => rn_add22 rfl f95 f100 hv w) rfl hs16 (by decide) (fun a17 ρ17 hp17 => ?_)
  have hv17 := hp17.ev
  have hs17 := hp17.sz
  have f101 := hp17.at'
  replace f0 := (hp17.rest 0 (by decide)).trans f0
  replace f4 := (hp17.rest 4 (by decide)).trans f4
  replace f85 := (hp17.rest 85 (by decide)).trans f85
  replace f86 := (hp17.rest 86 (by decide)).trans f86
  replace f87 := (hp17.rest 87 (by decide)).trans f87
  replace f88 := (hp17.rest 88 (by decide)).trans f88
  replace f89 := (hp17.rest 89 (by decide)).trans f89
  replace f90 := (hp17.rest 90 (by decide)).trans f90
  replace f91 := (hp17.rest 91 (by decide)).trans f91
  replace f92 := (hp17.rest 92 (by decide)).trans f92
  replace f93 := (hp17.rest 93 (by decide)).trans f93
  replace f94 := (hp17.rest 94 (by decide)).trans f94
  replace f95 := (hp17.rest 95 (by decide)).trans f95
  replace f96 := (hp17.rest 96 (by decide)).trans f96
  replace f97 := (hp17.rest 97 (by decide)).trans f97
  replace f98 := (hp17.rest 98 (by decide)).trans f98
  replace f99 := (hp17.rest 99 (by decide)).trans f99
  replace f100 := (hp17.rest 100 (by decide)).trans f100
  refine lt_pure (i := 17) (v := .pointer (some ⟨c, 0, none⟩)) (d := 102) hv17 (by rfl) (by kernel_rfl) (by kernel_rfl) (by kernel_rfl) (fun _ _ _ h => h) (by rfl) (fun w => rn_nil rfl f85 w) rfl hs17 (by decide) (fun a18 ρ18 hp18 => ?_)
  have hv18 := hp18.ev
  have hs18 := hp18.sz
  have f102 := hp18.at'
  replace f0 := (hp18.rest 0 (by decide)).trans f0
  replace f4 := (hp18.rest 4 (by decide)).trans f4
  replace f85 := (hp18.rest 85 (by decide)).trans f85
  replace f86 := (hp18.rest 86 (by decide)).trans f86
  replace f87 := (hp18.rest 87 (by decide)).trans f87
  replace f88 := (hp18.rest 88 (by decide)).trans f88
  replace f89 := (hp18.rest 89 (by decide)).trans f89
  replace f90 := (hp18.rest 90 (by decide)).trans f90
  replace f91 := (hp18.rest 91 (by decide)).trans f91
  replace f92 := (hp18.rest 92 (by decide)).trans f92
  replace f93 := (hp18.rest 93 (by decide)).trans f93
  replace f94 := (hp18.rest 94 (by decide)).trans f94
  replace f95 := (hp18.rest 95 (by decide)).trans f95
  replace f96 := (hp18.rest 96 (by decide)).trans f96
  replace f97 := (hp18.rest 97 (by decide)).trans f97
  replace f98 := (hp18.rest 98 (by decide)).trans f98
  replace f99 := (hp18.rest 99 (by decide)).trans f99
  replace f100 := (hp18.rest 100 (by decide)).trans f100
  replace f101 := (hp18.rest 101 (by decide)).trans f101
  refine lt_pure (i := 18) (v := .pointer (some ⟨c, 0, none⟩)) (d := 103) hv18 (by rfl) (by kernel_rfl) (by kernel_rfl) (by kernel_rfl) (fun _ _ _ h => h) (by rfl) (fun w => rn_f58 rfl f102 w) rfl hs18 (by decide) (fun a19 ρ19 hp19 => ?_)
  have hv19 := hp19.ev
  have hs19 := hp19.sz
  have f103 := hp19.at'
  replace f0 := (hp19.rest 0 (by decide)).trans f0
  replace f4 := (hp19.rest 4 (by decide)).trans f4
  replace f85 := (hp19.rest 85 (by decide)).trans f85
  replace f86 := (hp19.rest 86 (by decide)).trans f86
  replace f87 := (hp19.rest 87 (by decide)).trans f87
  replace f88 := (hp19.rest 88 (by decide)).trans f88
  replace f89 := (hp19.rest 89 (by decide)).trans f89
  replace f90 := (hp19.rest 90 (by decide)).trans f90
  replace f91 := (hp19.rest 91 (by decide)).trans f91
  replace f92 := (hp19.rest 92 (by decide)).trans f92
  replace f93 := (hp19.rest 93 (by decide)).trans f93
  replace f94 := (hp19.rest 94 (by decide)).trans f94
  replace f95 := (hp19.rest 95 (by decide)).trans f95
  replace f96 := (hp19.rest 96 (by decide)).trans f96
  replace f97 := (hp19.rest 97 (by decide)).trans f97
  replace f98 := (hp19.rest 98 (by decide)).trans f98
  replace f99 := (hp19.rest 99 (by decide)).trans f99
  replace f100 := (hp19.rest 100 (by decide)).trans f100
  replace f101 := (hp19.rest 101 (by decide)).trans f101
  replace f102 := (hp19.rest 102 (by decide)).trans f102
  refine lt_pure (i := 19) (v := .pointer (some ⟨c, A, none⟩)) (d := 104) hv19 (by rfl) (by kernel_rfl) (by kernel_rfl) (by kernel_rfl) (fun _ _ _ h => h) (by rfl) (fun w => rn_ix55 rfl f103 f87 hA w) rfl hs19 (by decide) (fun a20 ρ20 hp20 => ?_)
  have hv20 := hp20.ev
  have hs20 := hp20.sz
  have f104 := hp20.at'
  replace f0 := (hp20.rest 0 (by decide)).trans f0
  replace f4 := (hp20.rest 4 (by decide)).trans f4
  replace f85 := (hp20.rest 85 (by decide)).trans f85
  replace f86 := (hp20.rest 86 (by decide)).trans f86
  replace f87 := (hp20.rest 87 (by decide)).trans f87
  replace f88 := (hp20.rest 88 (by decide)).trans f88
  replace f89 := (hp20.rest 89 (by decide)).trans f89
  replace f90 := (hp20.rest 90 (by decide)).trans f90
  replace f91 := (hp20.rest 91 (by decide)).trans f91
  replace f92 := (hp20.rest 92 (by decide)).trans f92
  replace f93 := (hp20.rest 93 (by decide)).trans f93
  replace f94 := (hp20.rest 94 (by decide)).trans f94
  replace f95 := (hp20.rest 95 (by decide)).trans f95
  replace f96 := (hp20.rest 96 (by decide)).trans f96
  replace f97 := (hp20.rest 97 (by decide)).trans f97
  replace f98 := (hp20.rest 98 (by decide)).trans f98
  replace f99 := (hp20.rest 99 (by decide)).trans f99
  replace f100 := (hp20.rest 100 (by decide)).trans f100
  replace f101 := (hp20.rest 101 (by decide)).trans f101
  replace f102 := (hp20.rest 102 (by decide)).trans f102
  replace f103 := (hp20.rest 103 (by decide)).trans f103
  refine wpLate_one (i := 20) (by kernel_rfl) ?_
  refine lt_skip (w' := w5.setCell ⟨c, A, none⟩ (.int .u64 v)) hv20 (by rfl) (by rfl) (rn_store22 rfl f104 f101 w5 cA fA) rfl (fun h => (Bool.noConfusion ((show lateOn _ _ _ _ = true from (by kernel_rfl)).symm.trans h))) ?_
  refine wpLate_done (by kernel_rfl) ?_
  refine NoPanic.normal ?_
  have hq := hQ
  rw [hp1.eq, hp2.eq, hp3.eq, hp4.eq, hp5.eq, hp6.eq, hp7.eq, hp8.eq, hp9.eq, hp10.eq, hp11.eq, hp12.eq, hp13.eq, hp14.eq, hp15.eq, hp16.eq, hp17.eq, hp18.eq, hp19.eq, hp20.eq] at hq
  exact hq
end Go.Proofs.Ytelgmffmekfndaa
