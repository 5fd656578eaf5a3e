/- What the laws' helpers come to: texts of marks; lists of texts, of numbers, of points, of pairs, of accounts. Of no condition. -/
import Derived.Test.YtonggnnjobapcaaGreatDoorAb
set_option linter.unusedVariables false
set_option linter.unusedSimpArgs false
set_option maxRecDepth 100000
namespace Go.Proofs.YtonggnnjobapcaaGreatDoor
open Go.TV
abbrev mkBPointS:Nat:=16777216*3
def mkPointS:List tPoint→Int→List tPoint×Int:=mkL fun y k=>((k,(k+1,(ieq (irem (k+1+1) 3) 0,()))),k+1+1+1)
theorem wMarkPointS_ok:MkOk (.sl TPoint) wMarkPointS_d wHeldPointS_d mkBPointS mkPointS:=
 MkOk.slice (t:=TPoint) _ (fun x k=>wMarkPointS_b x k) (fun x k=>wHeldPointS_b x k)
  (fun xs k i h hi h0 hk hf=>by
   refine (wMarkPointS_q2 xs k i).trans ?_
   simp only[ilt_at h,inb_at h,cnd_t,len_upd,rd_upd h,upd_upd,rd_upd (xs:=upd _ _ _) (by simpa [upd] using h),show nz 3=true from rfl,next_at (i:=i) (by omega)]
   rw[iadd_64 (x:=k) (y:=1) (by omega) (by omega),iadd_64 (x:=k+1) (y:=1) (by omega) (by omega),iadd_64 (x:=k+1+1) (y:=1) (by omega) (by omega)])
  (fun xs k=>by refine (wMarkPointS_q2 xs k _).trans ?_;rw[ilt_end,cnd_f])
  (fun xs k i h y hi h0 hk hf he=>by
   refine (wHeldPointS_q2 xs k i).trans ?_
   simp only[ilt_at h,inb_at h,cnd_t,rd_at h,he,show nz 3=true from rfl,next_at (i:=i) (by omega)]
   rw[iadd_64 (x:=k) (y:=1) (by omega) (by omega),iadd_64 (x:=k+1) (y:=1) (by omega) (by omega),iadd_64 (x:=k+1+1) (y:=1) (by omega) (by omega)]
   simp only[ine_self,bneB_self,cnd_f])
  (fun xs k=>by refine (wHeldPointS_q2 xs k _).trans ?_;rw[ilt_end,cnd_f])
  (fun y k hf h0 hk=>by constructor<;>simp<;>omega)
theorem wMarkPointS_mk:Mk1 (.sl TPoint) wMarkPointS_d mkBPointS mkPointS:=wMarkPointS_ok.one
end Go.Proofs.YtonggnnjobapcaaGreatDoor
