/- FnAsks: closed facts of its row. Of no condition. -/
import Derived.Test.YtdfbhjpmdjmdaaaGreatDoorRows
import Derived.JoinedOf
set_option maxRecDepth 100000
namespace Go.Proofs.YtdfbhjpmdjmdaaaGreatDoor
theorem and2 {a b:Bool} (h:a=true) (k:b=true):(a&&b)=true:=by rw[h,k];rfl
set_option maxHeartbeats 4000000 in
theorem closed:joinedFacts Tryz.pinned.checked.prog 4 Tryz.f4 Rows.fnAsksSpec Rows.fnAsksRow=true:=by
 unfold joinedFacts
 repeat' with_reducible refine and2 ?_ ?_
 all_goals as_aux_lemma=>kernel_rfl
end Go.Proofs.YtdfbhjpmdjmdaaaGreatDoor
