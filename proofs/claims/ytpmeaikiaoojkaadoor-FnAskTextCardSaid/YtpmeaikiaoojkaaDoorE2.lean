/- The table of powers of ten, out of what is laid. -/
import Derived.Test.YtpmeaikiaoojkaaDoorE1
import Derived.Test.YtpmeaikiaoojkaaDoorT3
namespace Go.Proofs.YtpmeaikiaoojkaaDoor
open Go.RowKit

theorem pow10_of_reads {W : World} (h : Lib.VarReads Tryd.prog W "internal/strconv.uint64pow10" Rows.laid_internal_strconv_uint64pow10) : Pow10 W := by
  obtain ⟨g, t, cs, fuel, p, hg, ht, hv, hd⟩ := h
  have hd' : DataW.trod (fun _ => ()) Tryd.prog W 0 (fun _ => true) false fuel t cs.toList = some (Lib.tabData .u64 Lib.pow10Tab, p) := hd
  unfold Pow10 Lib.TabIs
  rw [hv]
  obtain rfl := Option.some.inj ((show Tryd.prog.globalNamed "internal/strconv.uint64pow10" = some 1 by kernel_rfl).symm.trans hg)
  obtain rfl := Option.some.inj ((show (Tryd.prog.globals[1]?).map (·.type) = some 98 by kernel_rfl).symm.trans ht)
  rw [← Lib.cells_of_tab Tryd.underlying98 Tryd.underlying82 (by kernel_rfl) (by kernel_rfl) hd']
end Go.Proofs.YtpmeaikiaoojkaaDoor
