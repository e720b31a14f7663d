/- All functions. -/
import Derived.Test.YtbjnllepfnbaoaaFin38jb
