/- The walk of disk.Flip, on a disk of one file that stands firm. -/
import Derived.Test.YtgmobpngcilgjaaRnW
import Derived.Test.YtgmobpngcilgjaaDkJ
-- @DEFS Z
set_option linter.unusedSimpArgs false
set_option linter.unusedVariables false
set_option maxRecDepth 4000
namespace Go.Proofs.Ytgmobpngcilgjaa
open Go Go.Fx Go.Proofs Go.Pl

section
variable {X : Cx} {ops : Array Oper} {nb : NB} {N : Act → World → Prop} {i : Nat} {os : List Oper} {Ls : List HProp} {ds : List Deferred} {ρ : Regs} {L : List HProp} {ty : TypeId} {d : Nat}
theorem s_bytes_string_nb [NoT nb] {s t e : TypeId} [I : Fx.Ty X.P s (.slice e)] [J : Fx.Ty X.P t .string] [K : Fx.Ty X.P e (.int .u8)] {x : Operand} {v : Value} {l : List UInt8} (hx : ev ρ x = v) (hc : (X.cv.contains s || X.cv.contains t) = true)
    (hr : VwIn L 1 v (l.map fun b => [.int .u8 (b.toNat : Int)])) (hd : Nat.blt d X.nt = true) (hk : ∀ h, SatL L h → SatL Ls h)
    (h : OpsL X ops nb N (i + 1) os Ls ds (upd ρ d (.string ⟨l.toArray⟩)) L) : Op1 X ops nb N i (some d) (.convert s t x) ty os Ls ds ρ L := by
  refine op_eff_nb (Y := Unit) (φ := fun _ => True) (v := fun _ => .string ⟨l.toArray⟩) (L' := fun _ => L) ⟨(fun _ e => by cases e), fun pos after gd => ⟨by simp only [qk, hc]; simp, fun w hs => ?_⟩⟩ (fun _ e => by cases e; exact hd) (fun _ _ => hk) fun _ _ => h
  obtain ⟨g, p, cap, hv, h2, h2', h3⟩ := hr.satL hs.heap
  have hlen : (l.map fun b => ([.int .u8 (b.toNat : Int)] : List Value)).length = l.length := by simp
  rw [hlen] at hv
  have hrun : (convert s t (.slice p l.length cap)).run X.P w = .ok (.string ⟨l.toArray⟩) w := by
    cases p with
    | none =>
      have hl : l = [] := by simpa using h2' rfl
      subst hl
      rw [run_convert_bytes_string w s t e none _ _ I.und K.und J.und]
      rfl
    | some a =>
      rcases h2 with hnil | ⟨b, o, hbo⟩
      · have hl : l = [] := by simpa using hnil
        subst hl
        exact run_convert_bytes_back w s t e a cap [] I.und K.und J.und (fun j hj => by simp at hj)
      · cases hbo
        refine run_convert_bytes_back w s t e ⟨b, o, none⟩ cap l I.und K.und J.und (fun j hj => ?_)
        have hne : (l.map fun b => ([.int .u8 (b.toNat : Int)] : List Value)) ≠ [] := by intro h; rw [List.map_eq_nil_iff] at h; subst h; simp at hj
        obtain ⟨cs, T, fr, hbk, hcs⟩ := h3 b o rfl hne
        have hfl : (l.map fun b => ([.int .u8 (b.toNat : Int)] : List Value)).flatten = l.map fun b => Value.int .u8 (b.toNat : Int) := by
          clear hne hcs hj g h3 h2' hlen h hr hv hx
          induction l with
          | nil => rfl
          | cons y l ih => simp [ih]
        rw [add_plain]
        refine cell_of_heap hbk (hcs j _ ?_)
        rw [hfl]; simp [hj]
  unfold OpVal
  simp only [execOp, hx, hv, Sem.run_bind, hrun, Result.andThen_ok, Sem.run_pure]
  exact ⟨(), trivial, trivial, hs⟩
end

theorem Flip_spec (b : Nat) (room : Int) (nm t : BA) (off bit : Nat) (c0 c : UInt8) (hm : mayN nm = true) (hn : nm.size ≤ 4611686018427387904) (h1 : off < t.size) (hz : t.size ≤ 1099511627776) (h2 : bit ≤ 7) (h0 : t.data.toList[off]? = some c0)
    (hc : bitsOf .xor .u8 (c0.toNat : Int) (shiftOf .shl .u8 1 (bit : Int)) = (c.toNat : Int)) :
    FSpec Try.prog 65 [.pointer (some ⟨b, 0, none⟩), .string nm, .int .i64 (off : Int), .int .i64 (bit : Int)] [diskP b (dR room nm t)] Unit (fun _ => True) (fun _ => .int .i64 0) (fun _ => [diskP b (dR room nm (setB t off c))]) := by
  refine fspec_ex ?_
  rintro ⟨⟨m1, m2, v, vs⟩, hv, hvs⟩
  unfold diskL
  dsimp only at hv hvs ⊢
  have hvs0 : vs.length = 0 := hvs
  have hns : ∀ x ∈ [nm], x.size ≤ 4611686018427387904 := by simpa using hn
  have hlive := dR_live hm room t
  have hhas : (fget nm (dR room nm t).files).isSome = true := dR_has room nm t
  have hfg : fget nm (dR room nm t).files = some t := by simp [dR, fget]
  have hg := getK_encF nm (dR room nm t).files
  rw [hfg] at hg
  simp only [Option.map_some] at hg
  have hp := putK_encF nm (setB t off c) (dR room nm t).files
  have hput : fput nm (setB t off c) (dR room nm t).files = [(nm, setB t off c)] := by simp [dR, fput]
  rw [hput] at hp
  have hx : (byteL t)[off]? = some [.int .u8 (c0.toNat : Int)] := by unfold byteL; rw [List.getElem?_map, h0]; rfl
  have t0 : (!decide ((0 : Int) = 0)) = false := rfl
  have t1 : decide ((off : Int) < 0) = false := by simp
  have t2 : decide ((bit : Int) < 0) = false := by simp
  have t3 : decide ((7 : Int) < (bit : Int)) = false := by simp; omega
  have t4 : decide ((t.size : Int) ≤ (off : Int)) = false := by simp; omega
  have t5 : decide ((0 : Int) < (vs.length : Int)) = false := by rw [hvs0]; rfl
  refine spec_intro [143] _ Try.func65 rfl Try.ntmps65 (by rfl) (fun w0 R => ?_)
  repeat' (first | (refine go_Z ?_; intros) | (refine gs_Z ?_ ?_ <;> (intro hgd; try (simp only [Bool.not_true, Bool.not_false] at hgd))) | (refine gc_Z ?_ ?_ <;> intro _) | fail)
  rename_i vn hvn
  refine cl_Z (live_spec b [] (.map (some m1)) (.map (some m2)) v (.int .i64 (dR room nm t).room) (.int .i64 (dR room nm t).fuse) (dR room nm t) vn (row 9 1 vn [[.string nm]]) [nm] Vw.row hns (by simp)) ?_
  intro _ _
  rw [hlive]
  repeat' (first | (refine go_Z ?_; intros) | (refine gs_Z ?_ ?_ <;> (intro hgd; try (simp only [Bool.not_true, Bool.not_false] at hgd))) | (refine gc_Z ?_ ?_ <;> intro _) | fail)
  refine cl_Z (has_spec b m1 (dR room nm t).files nm (.map (some m2)) v (.int .i64 (dR room nm t).room) (.int .i64 (dR room nm t).fuse) (.bool (dR room nm t).still)) ?_
  intro _ _
  rw [hhas]
  repeat' (first | (refine go_Z ?_; intros) | (refine gs_Z ?_ ?_ <;> (intro hgd; try (simp only [Bool.not_true, Bool.not_false] at hgd))) | (refine gc_Z ?_ ?_ <;> intro _) | fail)
  (apply ok_draw [6]; (focus (kernel_rfl)); (focus ((conv => lhs; whnf); first | done | rfl)); (focus (decide +kernel)); (focus (exact (fun _ h => h))))
  repeat' (first | (refine ro_Z ?_; intros) | fail)
  apply ops_run
  refine s_bytes_string_nb rfl rfl (VwIn.here Vw.bytes) rfl (fun _ h => h) ?_
  repeat' (first | (refine go_Z ?_; intros) | (refine gs_Z ?_ ?_ <;> (intro hgd; try (simp only [Bool.not_true, Bool.not_false] at hgd))) | (refine gc_Z ?_ ?_ <;> intro _) | fail)
  rw [show putK KStr nm (Value.agg #[Value.string { data := (setB t off c).data.toList.toArray }]) (encF (dR room nm t).files) = encF [(nm, setB t off c)] from hp]
  refine cl_Z (settle_spec b [(nm, setB t off c)] (dR room nm t).sure m1 m2 v (.int .i64 (dR room nm t).room) (.int .i64 (dR room nm t).fuse) (.bool (dR room nm t).still) (row 139 2 v vs)) ?_
  intro m3 _
  repeat' (first | (refine go_Z ?_; intros) | (refine gs_Z ?_ ?_ <;> (intro hgd; try (simp only [Bool.not_true, Bool.not_false] at hgd))) | (refine gc_Z ?_ ?_ <;> intro _) | fail)
  refine cont_map (fun _ h => clRow0 h) ?_
  refine cont_map (fun _ h => disk_in (b := b) (m1 := m1) (m2 := m3) (d := dR room nm (setB t off c)) (v := .slice none 0 0) (vs := []) rfl rfl (Take.out takeD h)) ?_
  (refine rt_Z (y := ()) (hrs := Try.results65) (hv := ?_) (hφ := ?_))
  · rfl
  · trivial
end Go.Proofs.Ytgmobpngcilgjaa
