/- What is measured, copied, compared: printed by program. -/
import Derived.Test.YtegdhiadikjdbaaCh1
set_option linter.unusedVariables false
set_option linter.unusedSimpArgs false
set_option maxRecDepth 100000
namespace Go.Proofs.Ytegdhiadikjdbaa
open Go.TV
theorem sz113 : SzOk (.prod .str (.prod .str .unit)) d113 := by
  intro x n hg h0 hn
  simp only [d113]
  repeat' first
    | exact sz_end h0 (by repeat' (first | exact trivial | assumption | refine And.intro ?_ ?_))
    | (refine sz_str (by first | exact hg.1 | exact hg.2.1 | exact hg.2.2.1 | exact hg.2.2.2.1 | exact hg.2.2.2.2.1 | exact hg.2.2.2.2.2.1 | exact hg.2.2.2.2.2.2.1 | exact hg.2.2.2.2.2.2.2.1 | exact hg.2.2.2.2.2.2.2.2.1 | exact hg.2.2.2.2.2.2.2.2.2.1 | exact hg.2.2.2.2.2.2.2.2.2.2.1) h0 hn fun m hm h0 _ hn hs => ?_; subst hm; try dsimp only)

theorem sz97 : SzOk (.sl (.prod .str (.prod .str .unit))) d97 := sz_slice sz113 q97_5
theorem sz72 : SzOk (.prod .str (.prod (.int .i64) (.prod (.int .i64) (.prod (.sl (.prod .str (.prod .str .unit))) .unit)))) d72 := by
  intro x n hg h0 hn
  simp only [d72]
  repeat' first
    | exact sz_end h0 (by repeat' (first | exact trivial | assumption | refine And.intro ?_ ?_))
    | (refine sz_str (by first | exact hg.1 | exact hg.2.1 | exact hg.2.2.1 | exact hg.2.2.2.1 | exact hg.2.2.2.2.1 | exact hg.2.2.2.2.2.1 | exact hg.2.2.2.2.2.2.1 | exact hg.2.2.2.2.2.2.2.1 | exact hg.2.2.2.2.2.2.2.2.1 | exact hg.2.2.2.2.2.2.2.2.2.1 | exact hg.2.2.2.2.2.2.2.2.2.2.1) h0 hn fun m hm h0 _ hn hs => ?_; subst hm; try dsimp only)
    | (refine sz_fn sz97 (by first | exact hg.1 | exact hg.2.1 | exact hg.2.2.1 | exact hg.2.2.2.1 | exact hg.2.2.2.2.1 | exact hg.2.2.2.2.2.1 | exact hg.2.2.2.2.2.2.1 | exact hg.2.2.2.2.2.2.2.1 | exact hg.2.2.2.2.2.2.2.2.1 | exact hg.2.2.2.2.2.2.2.2.2.1 | exact hg.2.2.2.2.2.2.2.2.2.2.1) h0 hn fun m h0 _ hn hs => ?_; try dsimp only)

theorem sz42 : SzOk (.sl (.prod .str (.prod (.int .i64) (.prod (.int .i64) (.prod (.sl (.prod .str (.prod .str .unit))) .unit))))) d42 := sz_slice sz72 q42_5
theorem sz14 : SzOk (.prod (.int .i64) (.prod (.sl (.prod .str (.prod (.int .i64) (.prod (.int .i64) (.prod (.sl (.prod .str (.prod .str .unit))) .unit))))) .unit)) d14 := by
  intro x n hg h0 hn
  simp only [d14]
  repeat' first
    | exact sz_end h0 (by repeat' (first | exact trivial | assumption | refine And.intro ?_ ?_))
    | (refine sz_str (by first | exact hg.1 | exact hg.2.1 | exact hg.2.2.1 | exact hg.2.2.2.1 | exact hg.2.2.2.2.1 | exact hg.2.2.2.2.2.1 | exact hg.2.2.2.2.2.2.1 | exact hg.2.2.2.2.2.2.2.1 | exact hg.2.2.2.2.2.2.2.2.1 | exact hg.2.2.2.2.2.2.2.2.2.1 | exact hg.2.2.2.2.2.2.2.2.2.2.1) h0 hn fun m hm h0 _ hn hs => ?_; subst hm; try dsimp only)
    | (refine sz_fn sz42 (by first | exact hg.1 | exact hg.2.1 | exact hg.2.2.1 | exact hg.2.2.2.1 | exact hg.2.2.2.2.1 | exact hg.2.2.2.2.2.1 | exact hg.2.2.2.2.2.2.1 | exact hg.2.2.2.2.2.2.2.1 | exact hg.2.2.2.2.2.2.2.2.1 | exact hg.2.2.2.2.2.2.2.2.2.1 | exact hg.2.2.2.2.2.2.2.2.2.2.1) h0 hn fun m h0 _ hn hs => ?_; try dsimp only)

theorem to114 : ToOk (.prod .str (.prod .str .unit)) d114 := by
  intro x hg
  simp only [d114, bnd, Option.bind_some, cnd, cond_true, cond_false, sne_self, ine_self, bneB_self, bnot, Bool.not_true]
  try rfl

theorem to98 : ToOk (.sl (.prod .str (.prod .str .unit))) d98 := to_slice to114 q98_3 (by decide)
theorem to74 : ToOk (.prod .str (.prod (.int .i64) (.prod (.int .i64) (.prod (.sl (.prod .str (.prod .str .unit))) .unit)))) d74 := by
  intro x hg
  have e0 := to98 x.2.2.2.1 hg.2.2.2.1
  simp only [d74, bnd, e0, Option.bind_some, cnd, cond_true, cond_false, sne_self, ine_self, bneB_self, bnot, Bool.not_true]
  try rfl

theorem to44 : ToOk (.sl (.prod .str (.prod (.int .i64) (.prod (.int .i64) (.prod (.sl (.prod .str (.prod .str .unit))) .unit))))) d44 := to_slice to74 q44_3 (by decide)
theorem to16 : ToOk (.prod (.int .i64) (.prod (.sl (.prod .str (.prod (.int .i64) (.prod (.int .i64) (.prod (.sl (.prod .str (.prod .str .unit))) .unit))))) .unit)) d16 := by
  intro x hg
  have e0 := to44 x.2.1 hg.2.1
  simp only [d16, bnd, e0, Option.bind_some, cnd, cond_true, cond_false, sne_self, ine_self, bneB_self, bnot, Bool.not_true]
  try rfl

theorem eq99 : EqOk (.prod .str (.prod .str .unit)) d99 := by
  intro x hg
  simp only [d99, bnd, Option.bind_some, cnd, cond_true, cond_false, sne_self, ine_self, bneB_self, bnot, Bool.not_true]

theorem eq77 : EqOk (.sl (.prod .str (.prod .str .unit))) d77 := eq_slice eq99 q77_4
theorem eq47 : EqOk (.prod .str (.prod (.int .i64) (.prod (.int .i64) (.prod (.sl (.prod .str (.prod .str .unit))) .unit)))) d47 := by
  intro x hg
  have e0 := eq77 x.2.2.2.1 hg.2.2.2.1
  simp only [d47, bnd, e0, Option.bind_some, cnd, cond_true, cond_false, sne_self, ine_self, bneB_self, bnot, Bool.not_true]

theorem eq21 : EqOk (.sl (.prod .str (.prod (.int .i64) (.prod (.int .i64) (.prod (.sl (.prod .str (.prod .str .unit))) .unit))))) d21 := eq_slice eq47 q21_4
theorem eq18 : EqOk (.prod (.int .i64) (.prod (.sl (.prod .str (.prod (.int .i64) (.prod (.int .i64) (.prod (.sl (.prod .str (.prod .str .unit))) .unit))))) .unit)) d18 := by
  intro x hg
  have e0 := eq21 x.2.1 hg.2.1
  simp only [d18, bnd, e0, Option.bind_some, cnd, cond_true, cond_false, sne_self, ine_self, bneB_self, bnot, Bool.not_true]

end Go.Proofs.Ytegdhiadikjdbaa
