/- The chapter's example of a man, in plain Lean. -/
import Derived.Test.YtgmobpngcilgjaaMnD
set_option linter.unusedVariables false
set_option maxRecDepth 20000
namespace Go.Proofs.Ytgmobpngcilgjaa
open Go Go.Fx Go.Pl

def mA : Mn := ⟨1, [], 2⟩
def mB : Mn := ⟨2, [], 3⟩
def nM : BA := ⟨#[109]⟩
def nX : BA := ⟨#[120]⟩
def M0 : Dk := newD 1000
def M1 : Dk := (saveD nM (mBytes mA) M0).1
def M2 : Dk := M1.fuseTo 2
def M3 : Dk := (saveD nM (mBytes mB) M2).1
def M4 : Dk := M3.crash 0 0
theorem mA_chk : mA.chk = true := by decide +kernel
theorem mB_chk : mB.chk = true := by decide +kernel
theorem m0_chk : mn0.chk = false := by decide +kernel
theorem mA_wf : mA.wf := ⟨by decide, by decide, by simp [mA]⟩
theorem mB_wf : mB.wf := ⟨by decide, by decide, by simp [mB]⟩
theorem mA_sz : (mBytes mA).size ≤ 549755813888 := by decide +kernel
theorem mB_sz : (mBytes mB).size ≤ 549755813888 := by decide +kernel
theorem M0_ok : M0.Ok := .new (by decide) (by decide)
theorem M1_ok : M1.Ok ∧ M1.loose.length ≤ 5 := save_ok M0_ok mA_sz
theorem M2_ok : M2.Ok ∧ M2.loose.length ≤ 5 := ⟨M1_ok.1.fuseTo (by decide), M1_ok.2⟩
theorem M3_ok : M3.Ok ∧ M3.loose.length ≤ 10 := by
  have h := save_ok (nm := nM) M2_ok.1 mB_sz
  exact ⟨h.1, by have := h.2; have := M2_ok.2; show (saveD nM (mBytes mB) M2).1.loose.length ≤ 10; omega⟩
theorem M4_ok : M4.Ok := M3_ok.1.crash 0 0
theorem M_a : (saveD nM (mBytes mA) M0).2 = 0 := by decide +kernel
theorem M_b : (saveD nM (mBytes mB) M2).2 = 20 := by decide +kernel
theorem M_f : (loadD nM M4).2 = 0 := by decide +kernel
theorem M_fw : (loadD nM M4).1.wal = 1 := by decide +kernel
theorem M_fn : (loadD nM M4).1.next = 2 := by decide +kernel
theorem M_fr : (loadD nM M4).1.runs = [] := by decide +kernel
theorem M_g : (loadD nX M4).2 = 3 := by decide +kernel
theorem M_l : (loadD nM M4).1 = mA := by
  have h1 := M_fw
  have h2 := M_fn
  have h3 := M_fr
  generalize (loadD nM M4).1 = m at h1 h2 h3
  obtain ⟨a, b, c⟩ := m
  dsimp only at h1 h2 h3
  subst h1 h2 h3
  rfl
end Go.Proofs.Ytgmobpngcilgjaa
