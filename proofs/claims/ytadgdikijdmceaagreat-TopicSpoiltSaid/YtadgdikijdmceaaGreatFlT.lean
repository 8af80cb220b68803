import Derived.Test.YtadgdikijdmceaaGreatG8
set_option linter.unusedSimpArgs false
set_option linter.unusedVariables false
set_option maxRecDepth 100000
namespace Go.Proofs.YtadgdikijdmceaaGreat
open Go Go.Fx Go.Proofs Go.Pl

def flipD (d : Dk) (nm u : BA) : Dk := { d with files := fput nm u d.files, sure := fput nm u d.files, loose := [] }
theorem flip_spec (b : Nat) (d : Dk) (nm t : BA) (off bit : Nat) (c0 c : UInt8) (hst : d.still = false) (hlo : d.loose = []) (hfg : fget nm d.files = some t) (hm : mayN nm = true) (hn : nm.size ≤ 4611686018427387904) (h1 : off < t.size) (hz : t.size ≤ 1099511627776) (h2 : bit ≤ 7) (h0 : t.data.toList[off]? = some c0)
    (hc : bitsOf .xor .u8 (c0.toNat : Int) (shiftOf .shl .u8 1 (bit : Int)) = (c.toNat : Int)) :
    FSpec Tryz.prog 22 [.pointer (some ⟨b, 0, none⟩), .string nm, .int .i64 (off : Int), .int .i64 (bit : Int)] [diskP b d] Unit (fun _ => True) (fun _ => .int .i64 0) (fun _ => [diskP b (flipD d nm (setB t off c))]) := by
  refine fspec_ex ?_
  rintro ⟨⟨m1, m2, v, vs⟩, hv, hvs⟩
  unfold diskL
  dsimp only at hv hvs ⊢
  have hvs0 : vs.length = 0 := by rw [hvs, hlo]; rfl
  have hns : ∀ x ∈ [nm], x.size ≤ 4611686018427387904 := by simpa using hn
  have hlive : d.live [nm] = 0 := by unfold Dk.live; rw [hst]; simp [hm]
  have hhas : (fget nm d.files).isSome = true := by rw [hfg]; rfl
  have hg := getK_encF nm d.files
  rw [hfg] at hg
  simp only [Option.map_some] at hg
  have hp := putK_encF nm (setB t off c) d.files
  have hx : (byteL t)[off]? = some [.int .u8 (c0.toNat : Int)] := by unfold byteL; rw [List.getElem?_map, h0]; rfl
  have t0 : (!decide ((0 : Int) = 0)) = false := rfl
  have t1 : decide ((off : Int) < 0) = false := by simp
  have t2 : decide ((bit : Int) < 0) = false := by simp
  have t3 : decide ((7 : Int) < (bit : Int)) = false := by simp; omega
  have t4 : decide ((t.size : Int) ≤ (off : Int)) = false := by simp; omega
  have t5 : decide ((0 : Int) < (vs.length : Int)) = false := by rw [hvs0]; rfl
  refine spec_intro [93] _ Tryz.func22 rfl Tryz.ntmps22 (by rfl) (fun w0 R => ?_)
  repeat' (first | (refine go_Z ?_; intros) | (refine gs_Z ?_ ?_ <;> (intro hgd; try (simp only [Bool.not_true, Bool.not_false] at hgd))) | (refine gc_Z ?_ ?_ <;> intro _) | fail)
  rename_i vn hvn
  refine cl_Z (live_spec b [] (.map (some m1)) (.map (some m2)) v (.int .i64 d.room) (.int .i64 d.fuse) d vn (row 9 1 vn [[.string nm]]) [nm] Vw.row hns (by simp)) ?_
  intro _ _
  rw [hlive]
  repeat' (first | (refine go_Z ?_; intros) | (refine gs_Z ?_ ?_ <;> (intro hgd; try (simp only [Bool.not_true, Bool.not_false] at hgd))) | (refine gc_Z ?_ ?_ <;> intro _) | fail)
  refine cl_Z (has_spec b m1 d.files nm (.map (some m2)) v (.int .i64 d.room) (.int .i64 d.fuse) (.bool d.still)) ?_
  intro _ _
  rw [hhas]
  repeat' (first | (refine go_Z ?_; intros) | (refine gs_Z ?_ ?_ <;> (intro hgd; try (simp only [Bool.not_true, Bool.not_false] at hgd))) | (refine gc_Z ?_ ?_ <;> intro _) | fail)
  (apply ok_draw [6]; (focus (kernel_rfl)); (focus ((conv => lhs; whnf); first | done | rfl)); (focus (decide +kernel)); (focus (exact (fun _ h => h))))
  repeat' (first | (refine go_Z ?_; intros) | (refine gs_Z ?_ ?_ <;> (intro hgd; try (simp only [Bool.not_true, Bool.not_false] at hgd))) | (refine gc_Z ?_ ?_ <;> intro _) | fail)
  rw [show putK KStr nm (Value.agg #[Value.string { data := (setB t off c).data.toList.toArray }]) (encF d.files) = encF (fput nm (setB t off c) d.files) from hp]
  refine cl_Z (settle_spec b (fput nm (setB t off c) d.files) d.sure m1 m2 v (.int .i64 d.room) (.int .i64 d.fuse) (.bool d.still) (row 98 2 v vs)) ?_
  intro m3 _
  repeat' (first | (refine go_Z ?_; intros) | (refine gs_Z ?_ ?_ <;> (intro hgd; try (simp only [Bool.not_true, Bool.not_false] at hgd))) | (refine gc_Z ?_ ?_ <;> intro _) | fail)
  refine cont_map (fun _ h => clRow0 h) ?_
  refine cont_map (fun _ h => disk_in (b := b) (m1 := m1) (m2 := m3) (d := flipD d nm (setB t off c)) (v := .slice none 0 0) (vs := []) rfl rfl (Take.out takeD h)) ?_
  (refine rt_Z (y := ()) (hrs := Tryz.results22) (hv := ?_) (hφ := ?_))
  · rfl
  · trivial
end Go.Proofs.YtadgdikijdmceaaGreat
